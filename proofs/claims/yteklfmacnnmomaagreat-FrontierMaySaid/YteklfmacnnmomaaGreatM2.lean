/- Merged texts: Ident VecA VecB VecC VecD VecE VecF. -/
import Derived.Test.YteklfmacnnmomaaGreatM1
set_option linter.unusedSimpArgs false
set_option linter.unusedVariables false
/- Contracts of the functions of package ident that only compute. -/
namespace Go.Proofs.YteklfmacnnmomaaGreat
open Go.RowKit Go.Shelf
/-- The greatest time. -/
def MaxT : Int := 4611686018427387904
structure IdT where
 time : Int
 site : Int
 seq : Int
def IdT.val (i : IdT) : Value := .agg #[.int .u64 i.time, .int .i64 i.site, .int .u64 i.seq]
def siteOk (n : Int) : Bool := decide (1 ≤ n ∧ n ≤ 8)
def idOk (i : IdT) : Bool := decide (1 ≤ i.time ∧ i.time ≤ MaxT) && (siteOk i.site && decide (1 ≤ i.seq ∧ i.seq ≤ MaxT))
theorem idOk_iff (i : IdT) : idOk i = true ↔ (1 ≤ i.time ∧ i.time ≤ MaxT) ∧ (1 ≤ i.site ∧ i.site ≤ 8) ∧ (1 ≤ i.seq ∧ i.seq ≤ MaxT) := by
 simp [idOk, siteOk]
theorem site_any (n : Int) (w : World) :
 Calls Tryz.prog 102 #[.int .i64 n] w fun e w' => e = .returned (.bool (siteOk n)) ∧ w = w' := by
 unfold siteOk
 by_cases h1 : 1 ≤ n
 · go_enter Tryz.func102, Tryz.ntmps102
   go_wp2
   go_ret
   exact ⟨by simp [h1], rfl⟩
 · go_enter Tryz.func102, Tryz.ntmps102
   go_wp2
   go_ret
   exact ⟨by simp; omega, rfl⟩
theorem idCheck_any (i : IdT) (w : World) :
 Calls Tryz.prog 92 #[i.val] w (Gives (.int .i64 (errOf (idOk i) 210)) w) := by
 obtain ⟨t, s, q⟩ := i
 unfold IdT.val idOk MaxT
 dsimp only
 by_cases h1 : 1 ≤ t
 · by_cases h2 : t ≤ 4611686018427387904
   · cases hs : siteOk s
     · go_enter Tryz.func92, Tryz.ntmps92
       go_wp2_with (go_at_call 102; refine (site_any _ _).mono ?_; rintro e w' ⟨rfl, rfl⟩)
       go_ret
       exact ⟨ret_int (by simp [errOf]), (B7 _ _).alloc (Nat.le_refl _) _⟩
     · by_cases h3 : 1 ≤ q
       · by_cases h4 : q ≤ 4611686018427387904
         · go_enter Tryz.func92, Tryz.ntmps92
           go_wp2_with (go_at_call 102; refine (site_any _ _).mono ?_; rintro e w' ⟨rfl, rfl⟩)
           go_ret
           exact ⟨ret_int (by simp [errOf, h1, h2, h3, h4]), (B7 _ _).alloc (Nat.le_refl _) _⟩
         · go_enter Tryz.func92, Tryz.ntmps92
           go_wp2_with (go_at_call 102; refine (site_any _ _).mono ?_; rintro e w' ⟨rfl, rfl⟩)
           go_ret
           exact ⟨ret_int (by simp [errOf]; omega), (B7 _ _).alloc (Nat.le_refl _) _⟩
       · go_enter Tryz.func92, Tryz.ntmps92
         go_wp2_with (go_at_call 102; refine (site_any _ _).mono ?_; rintro e w' ⟨rfl, rfl⟩)
         go_ret
         exact ⟨ret_int (by simp [errOf]; omega), (B7 _ _).alloc (Nat.le_refl _) _⟩
   · go_enter Tryz.func92, Tryz.ntmps92
     go_wp2_with fail
     go_ret
     exact ⟨ret_int (by simp [errOf]; omega), (B7 _ _).alloc (Nat.le_refl _) _⟩
 · go_enter Tryz.func92, Tryz.ntmps92
   go_wp2_with fail
   go_ret
   exact ⟨ret_int (by simp [errOf]; omega), (B7 _ _).alloc (Nat.le_refl _) _⟩
end Go.Proofs.YteklfmacnnmomaaGreat
/- Package vector: the iterator over sites, Check. -/
namespace Go.Proofs.YteklfmacnnmomaaGreat
open Go.RowKit Go.Shelf
attribute [local go_sem] Oper.semAt_some
/-- The cells of an array of nine numbers. -/
def lit9 (v : Nat → Int) : Array Value := #[.int .u64 (v 0), .int .u64 (v 1), .int .u64 (v 2), .int .u64 (v 3), .int .u64 (v 4), .int .u64 (v 5), .int .u64 (v 6), .int .u64 (v 7), .int .u64 (v 8)]
theorem lit9_size (v : Nat → Int) : (lit9 v).size = 9 := rfl
theorem lit9_get (v : Nat → Int) (k : Nat) (h : k < 9) : (lit9 v)[k]? = some (.int .u64 (v k)) := by
 match k, h with
 | 0, _ => rfl
 | 1, _ => rfl
 | 2, _ => rfl
 | 3, _ => rfl
 | 4, _ => rfl
 | 5, _ => rfl
 | 6, _ => rfl
 | 7, _ => rfl
 | 8, _ => rfl
theorem lit9_ext {v u : Nat → Int} (h : ∀ k, k < 9 → v k = u k) : lit9 v = lit9 u := by
 unfold lit9
 rw [h 0 (by omega), h 1 (by omega), h 2 (by omega), h 3 (by omega), h 4 (by omega), h 5 (by omega), h 6 (by omega), h 7 (by omega), h 8 (by omega)]
def upd (v : Nat → Int) (k : Nat) (x : Int) : Nat → Int := fun j => if j = k then x else v j
theorem lit9_set (v : Nat → Int) (k : Nat) (x : Int) (h : k < 9) : (lit9 v).setIfInBounds k (.int .u64 x) = lit9 (upd v k x) := by
 match k, h with
 | 0, _ => rfl
 | 1, _ => rfl
 | 2, _ => rfl
 | 3, _ => rfl
 | 4, _ => rfl
 | 5, _ => rfl
 | 6, _ => rfl
 | 7, _ => rfl
 | 8, _ => rfl
theorem vec9 {w : World} {p : Nat} {v : Nat → Int} {t : TypeId} {f : Nat × Nat} (h : w.heap[p]? = some (.cells (lit9 v) t f)) :
 w.cell? ⟨p, 0, none⟩ = some (.int .u64 (v 0)) ∧ w.cell? ⟨p, 1, none⟩ = some (.int .u64 (v 1)) ∧ w.cell? ⟨p, 2, none⟩ = some (.int .u64 (v 2)) ∧ w.cell? ⟨p, 3, none⟩ = some (.int .u64 (v 3)) ∧ w.cell? ⟨p, 4, none⟩ = some (.int .u64 (v 4)) ∧ w.cell? ⟨p, 5, none⟩ = some (.int .u64 (v 5)) ∧ w.cell? ⟨p, 6, none⟩ = some (.int .u64 (v 6)) ∧ w.cell? ⟨p, 7, none⟩ = some (.int .u64 (v 7)) ∧ w.cell? ⟨p, 8, none⟩ = some (.int .u64 (v 8)) :=
 ⟨c7b h (lit9_get v 0 (by omega)), c7b h (lit9_get v 1 (by omega)), c7b h (lit9_get v 2 (by omega)), c7b h (lit9_get v 3 (by omega)), c7b h (lit9_get v 4 (by omega)), c7b h (lit9_get v 5 (by omega)), c7b h (lit9_get v 6 (by omega)), c7b h (lit9_get v 7 (by omega)), c7b h (lit9_get v 8 (by omega))⟩
theorem heap_set9 {w : World} {p : Nat} {t : TypeId} {f : Nat × Nat} {o : Nat → Int} (x : Nat → Int) (hp : w.heap[p]? = some (.cells (lit9 o) t f)) :
 (((((((((w.setCell ⟨p, 0, none⟩ (.int .u64 (x 0))).setCell ⟨p, 1, none⟩ (.int .u64 (x 1))).setCell ⟨p, 2, none⟩ (.int .u64 (x 2))).setCell ⟨p, 3, none⟩ (.int .u64 (x 3))).setCell ⟨p, 4, none⟩ (.int .u64 (x 4))).setCell ⟨p, 5, none⟩ (.int .u64 (x 5))).setCell ⟨p, 6, none⟩ (.int .u64 (x 6))).setCell ⟨p, 7, none⟩ (.int .u64 (x 7))).setCell ⟨p, 8, none⟩ (.int .u64 (x 8))).heap[p]? = some (.cells (lit9 x) t f) := by
 have h0 := h7s (k := 0) hp (.int .u64 (x 0))
 have h1 := h7s (k := 1) h0 (.int .u64 (x 1))
 have h2 := h7s (k := 2) h1 (.int .u64 (x 2))
 have h3 := h7s (k := 3) h2 (.int .u64 (x 3))
 have h4 := h7s (k := 4) h3 (.int .u64 (x 4))
 have h5 := h7s (k := 5) h4 (.int .u64 (x 5))
 have h6 := h7s (k := 6) h5 (.int .u64 (x 6))
 have h7 := h7s (k := 7) h6 (.int .u64 (x 7))
 have h8 := h7s (k := 8) h7 (.int .u64 (x 8))
 rw [h8]
 simp [lit9]
theorem below_set9 {n₀ : Nat} {a w : World} {p : Nat} (x : Nat → Int) (h : Below n₀ a w) (hp : n₀ ≤ p) : Below n₀ a (((((((((w.setCell ⟨p, 0, none⟩ (.int .u64 (x 0))).setCell ⟨p, 1, none⟩ (.int .u64 (x 1))).setCell ⟨p, 2, none⟩ (.int .u64 (x 2))).setCell ⟨p, 3, none⟩ (.int .u64 (x 3))).setCell ⟨p, 4, none⟩ (.int .u64 (x 4))).setCell ⟨p, 5, none⟩ (.int .u64 (x 5))).setCell ⟨p, 6, none⟩ (.int .u64 (x 6))).setCell ⟨p, 7, none⟩ (.int .u64 (x 7))).setCell ⟨p, 8, none⟩ (.int .u64 (x 8))) :=
 (Below.setCell (Below.setCell (Below.setCell (Below.setCell (Below.setCell (Below.setCell (Below.setCell (Below.setCell (Below.setCell h hp _) hp _) hp _) hp _) hp _) hp _) hp _) hp _) hp _)
theorem heap_set9_other {w : World} {p b : Nat} {ob : Obj} (x : Nat → Int) (h : w.heap[b]? = some ob) (hne : p ≠ b) : (((((((((w.setCell ⟨p, 0, none⟩ (.int .u64 (x 0))).setCell ⟨p, 1, none⟩ (.int .u64 (x 1))).setCell ⟨p, 2, none⟩ (.int .u64 (x 2))).setCell ⟨p, 3, none⟩ (.int .u64 (x 3))).setCell ⟨p, 4, none⟩ (.int .u64 (x 4))).setCell ⟨p, 5, none⟩ (.int .u64 (x 5))).setCell ⟨p, 6, none⟩ (.int .u64 (x 6))).setCell ⟨p, 7, none⟩ (.int .u64 (x 7))).setCell ⟨p, 8, none⟩ (.int .u64 (x 8))).heap[b]? = some ob :=
 (h7o (h7o (h7o (h7o (h7o (h7o (h7o (h7o (h7o h hne _) hne _) hne _) hne _) hne _) hne _) hne _) hne _) hne _)
def vecV (v : Nat → Int) : Value := .agg (lit9 v)
/-- Is it a vector? -/
def sitesOk (v : Nat → Int) : Bool := (List.range 9).all fun k => k == 0 || decide (v k ≤ MaxT)
theorem sitesOk_iff (v : Nat → Int) : sitesOk v = true ↔ ∀ k, 1 ≤ k → k < 9 → v k ≤ MaxT := by
 unfold sitesOk
 rw [List.all_eq_true]
 constructor
 · intro h k h1 h9
   have := h k (List.mem_range.2 h9)
   simp at this
   omega
 · intro h k hk
   have h9 := List.mem_range.1 hk
   by_cases h0 : k = 0
   · simp [h0]
   · have := h k (by omega) h9
     simp [this]
def vecOk (v : Nat → Int) : Bool := decide (v 0 = 0) && sitesOk v
/-- What is told of the sites, from 1 on. -/
def siteArgs (v : Nat → Int) (k : Fin 8) : Array Value := #[.int .i64 (((k.1 + 1 : Nat)) : Int), .int .u64 (v (k.1 + 1))]
theorem info22 : (Tryz.prog.info? 22).map (fun i => (i.zero, i.size, i.bytes)) = some (some (.int .u64 0), 1, 8) := by kernel_rfl
theorem run_index9 (v : Nat → Int) (k : Nat) (h : k < 9) (w : World) : (Instr.index 24 (.agg (lit9 v)) (.int .i64 (k : Int))).run Tryz.prog w = .ok (.int .u64 (v k)) w := by
 obtain ⟨i0, hi, _, hz1, _⟩ := info_parts info22
 exact run_index_int w 24 22 9 .u64 i0 Tryz.underlying24 Tryz.underlying22 hi hz1 _ k _ h (lit9_get v k h)
set_option maxRecDepth 100000 in
set_option maxHeartbeats 2000000 in
theorem sites1_in (n : Nat) (hn : 1 ≤ n) (l Bs Bh : Nat) (bs : List Nat) (v : Nat → Int) (J Jx : List (Fin 8) → World → Prop)
 (hY : ∀ pre x W, J pre W → pre.length < 8 → YieldAt Fence.wide (n - 1) Tryz.prog l (siteArgs v x) W fun e W' =>
  (e = .returned (.bool true) ∧ J (pre ++ [x]) W' ∧ KeepsAt bs W W') ∨ (e = .returned (.bool false) ∧ Jx (pre ++ [x]) W'))
 (W : World) (hc : W.cell? ⟨Bs, 0, none⟩ = some (.pointer (some ⟨Bh, 0, none⟩))) (hh : ∀ k, k < 9 → W.cell? ⟨Bh, k, none⟩ = some (.int .u64 (v k))) (h0 : J [] W) :
 CallsIn Fence.wide n Tryz.prog 86 #[.func (.yield l) #[] #[], .pointer (some ⟨Bs, 0, none⟩)] W fun e W' => (∃ v, e = .returned v) ∧
  ((∃ ys, ys = List.finRange 8 ∧ J ys W') ∨ (∃ pre, pre <+: List.finRange 8 ∧ Jx pre W')) := by
 have c0 := hh 0 (by omega)
 have c1 := hh 1 (by omega)
 have c2 := hh 2 (by omega)
 have c3 := hh 3 (by omega)
 have c4 := hh 4 (by omega)
 have c5 := hh 5 (by omega)
 have c6 := hh 6 (by omega)
 have c7 := hh 7 (by omega)
 have c8 := hh 8 (by omega)
 have HY := H7 hY
 clear hh hY
 refine callsIn_of_wp Tryz.func86 rfl trivial ?_ rfl
 simp only [Tryz.ntmps86, List.size_toArray, List.length_cons, List.length_nil, Nat.reduceAdd, Nat.reduceSub, Array.replicate_succ, Array.replicate_zero, List.push_toArray, List.append_toArray, List.nil_append, List.cons_append]
 gi_wp2
 apply wpIn_scope
 gi_wp2
 apply wpIn_label
 gi_wp2
 have hidx := run_index9 v
 gi_loopw [9] (fun i wr => ∃ k : Nat, k ≤ 9 ∧ i = .int .i64 k ∧ J (firsts 8 (k - 1)) wr) (fun i _ => 9 - (intOf i).toNat)
 case atStart => exact ⟨0, by omega, rfl, h0⟩
 case round =>
  obtain ⟨k, hk, rfl, hJs⟩ := hrel
  by_cases hlt : k < 9
  · have hix := hidx k hlt
    unfold lit9 at hix
    by_cases h0k : 0 < k
    · have e : k - 1 + 1 = k := by omega
      obtain ⟨fn, tmps, assign, body, hy, hR⟩ := HY.out _ (⟨k - 1, by omega⟩ : Fin 8) wr hJs (by rw [firsts_length (by omega)]; omega)
      unfold siteArgs at hy
      dsimp only at hy
      rw [e] at hy
      have hs := firsts_succ (N := 8) (k := k - 1) (by omega)
      rw [e] at hs
      rw [hs] at hR
      clear hs e
      gi_wp2
      refine hR.mono ?_
      rintro e W3 (⟨rfl, hJ3, hk3⟩ | ⟨rfl, hJx3⟩)
      · gi_wp2
        go_roundw
        case rel => exact ⟨k + 1, by omega, by simp, hJ3⟩
        case measure => simp [intOf]; omega
      · gi_wp2
        rw [Exit.noGoto_normal]
        go_end0
        exact ⟨⟨_, rfl⟩, .inr ⟨_, firsts_prefix _ _, hJx3⟩⟩
    · obtain rfl : k = 0 := by omega
      have hix0 : ∀ w, (Instr.index 24 (.agg (lit9 v)) (.int .i64 0)).run Tryz.prog w = .ok (.int .u64 (v 0)) w := fun w => run_index9 v 0 (by omega) w
      unfold lit9 at hix0
      gi_wp2
      go_roundw
      case rel => exact ⟨1, by omega, by simp, hJs⟩
      case measure => simp [intOf]
  · obtain rfl : k = 9 := by omega
    gi_wp2; rw [Exit.noGoto_normal]
    go_end0
    exact ⟨⟨_, rfl⟩, .inl ⟨_, firsts_all 8, hJs⟩⟩
theorem sites_any (p : Option Addr) (w : World) :
 Calls Tryz.prog 72 #[.pointer p] w fun e w' => e = .returned (.func (.func 86) #[] #[.pointer (some ⟨w.heap.size, 0, none⟩)]) ∧ w.alloc (.cells #[.pointer p] 109) = w' := by
 go_enter Tryz.func72, Tryz.ntmps72
 go_wp2
 go_ret
 exact ⟨rfl, rfl⟩
theorem sites_iter (Bs Bh : Nat) (v : Nat → Int) (w : World) (hBs : Bs < w.heap.size) (hBh : Bh < w.heap.size) (hc : w.cell? ⟨Bs, 0, none⟩ = some (.pointer (some ⟨Bh, 0, none⟩))) (hh : ∀ k, k < 9 → w.cell? ⟨Bh, k, none⟩ = some (.int .u64 (v k))) :
 Iter Tryz.prog 86 #[.pointer (some ⟨Bs, 0, none⟩)] 8 (siteArgs v) [Bs, Bh] w := by
 intro n hn1 l J Jx W hW _ _ hY h0
 exact sites1_in n hn1 l Bs Bh _ v J Jx hY W ((hW.cell (p := ⟨Bs, 0, none⟩) hBs).trans hc) (fun k hk => (hW.cell (p := ⟨Bh, k, none⟩) hBh).trans (hh k hk)) h0
/- Package vector: Check. -/
theorem sitesOk_false_of {v : Nat → Int} (x : Fin 8) (hx : MaxT < v (x.1 + 1)) : sitesOk v = false := by
 cases hs : sitesOk v with
 | false => rfl
 | true =>
  have := (sitesOk_iff v).1 hs (x.1 + 1) (by omega) (by omega)
  omega
theorem sitesOk_of_all {v : Nat → Int} (h : ∀ x ∈ List.finRange 8, v (x.1 + 1) ≤ MaxT) : sitesOk v = true := by
 rw [sitesOk_iff]
 intro k h1 h9
 have := h ⟨k - 1, by omega⟩ (List.mem_finRange _)
 have e : k - 1 + 1 = k := by omega
 simpa [e] using this
set_option maxRecDepth 100000 in
set_option maxHeartbeats 2000000 in
theorem vecCheck_any (v : Nat → Int) (w : World) : Calls Tryz.prog 52 #[vecV v] w (Gives (.int .i64 (errOf (vecOk v) 230)) w) := by
 by_cases h0 : v 0 = 0
 · refine (callsIn_wide (n := 10)).1 ?_
   refine callsIn_of_wp_marks Tryz.func52 rfl trivial ?_ rfl
   simp only [vecV, lit9, Tryz.ntmps52, List.size_toArray, List.length_cons, List.length_nil, Nat.reduceAdd, Nat.reduceSub, Array.replicate_succ, Array.replicate_zero, List.push_toArray, List.append_toArray, List.nil_append, List.cons_append]
   have hz : (v 0 != 0) = false := by simp [h0]
   have Hv := H7 h0
   clear h0
   gi_wp2_with (gi_at_call 72; refine (callsIn_wide.2 (sites_any _ _)).mono ?_; rintro e w' ⟨rfl, rfl⟩)
   refine range_iter (gf := 86) (lb := #[.pointer (some ⟨w.heap.size + 1 + 1 + 1, 0, none⟩)])
    (sites_iter (w.heap.size + 1 + 1 + 1) (w.heap.size + 1 + 1) v _ (by simp) (by simp) ?hc ?hh) (by omega) rfl (enters_of Tryz.func86 (by kernel_rfl) rfl)
    (by simp) (B7 _ _) (fun _ => rfl) (fun x => [(12, .int .i64 (((x.1 + 1 : Nat)) : Int)), (13, .int .u64 (v (x.1 + 1)))]) (fun _ => by simp [siteArgs])
    (fun pre W => (∀ x ∈ pre, v (x.1 + 1) ≤ MaxT) ∧ Below w.heap.size w W ∧ (W.cell? ⟨w.heap.size + 1, 0, none⟩ = some (.int .i64 0) ∧ W.frozen? ⟨w.heap.size + 1, 0, none⟩ = false))
    (fun c _ W => (c = .ret ∧ sitesOk v = false) ∧ Below w.heap.size w W ∧ W.cell? ⟨w.heap.size + 1, 0, none⟩ = some (.int .i64 230))
    (OwnFrom.and (ownFrom_pure _ _) (OwnFrom.and (ownFrom_below (Nat.le_refl _) (by simp; omega)) (ownFrom_free _ _)))
    (fun c => OwnFrom.and (ownFrom_pure _ _) (OwnFrom.and (ownFrom_below (Nat.le_refl _) (by simp; omega)) (ownFrom_cell _ _)))
    ?h0 (fun x => [(4, .int .u64 (v (x.1 + 1)))]) ?assign ?body ?done ?stop
   case hc => simp [go_sem]
   case hh =>
    intro k hk
    have h9 := lit9_get v k hk
    unfold lit9 at h9
    simp [go_sem] at h9 ⊢
    exact h9
   case h0 =>
    refine ⟨by simp, ?_, by simp [go_sem], by simp [go_sem]⟩
    repeat (first | exact B7 _ _ | refine Below.alloc ?_ (by first | omega | (simp; done) | (simp; omega)) _)
   case assign =>
    intro l x W K hK
    simp only [loopAct, List.foldl, List.cons_append, List.nil_append] at hK ⊢
    gi_wp2
    exact hK
   case body =>
    rintro l pre x W ⟨hI, hB, hc, hf⟩ _
    simp only [loopAct, List.foldl, List.cons_append, List.nil_append]
    gi_wp2
    · exact ⟨KeepsOthers.setCell _ _ _, ⟨rfl, sitesOk_false_of x (by assumption)⟩, hB.setCell (p := ⟨w.heap.size + 1, 0, none⟩) (by simp) _, World.cell?_setCell_same _ _ _ hc⟩
    · refine ⟨KeepsOthers.refl _, KeepsAt.refl _ _, ?_, hB, hc, hf⟩
      intro y hy
      rcases List.mem_append.1 hy with hy | hy
      · exact hI y hy
      · rw [List.mem_singleton.1 hy]; assumption
   case done =>
    rintro D W hD ⟨hI, hB, hc, hf⟩ hK
    have hK2 := (KeepsOthers.setCell W ⟨w.heap.size + 1, 0, none⟩ (.int .i64 0)).same D _ hK rfl
    have hc2 := World.cell?_setCell_same W ⟨w.heap.size + 1, 0, none⟩ (.int .i64 0) hc
    gi_wp2
    simp at hD
    refine ret_marked rfl hK2 (v := .int .i64 0) (by simp [results, Tryz.results52, go_sem, putObj_cell hc2 hK2]) ⟨ret_int (by simp [errOf, vecOk, Hv.out, sitesOk_of_all hI]), ?_⟩
    exact below_putObj (hB.setCell (p := ⟨w.heap.size + 1, 0, none⟩) (by simp) _) hK2 (by omega) _
   case stop =>
    rintro D c pre W hD _ ⟨⟨rfl, hI⟩, hB, hc⟩ hK
    gi_wp2
    simp at hD
    refine ret_marked rfl hK (v := .int .i64 230) (by simp [results, Tryz.results52, go_sem, putObj_cell hc hK]) ⟨ret_int (by simp [errOf, vecOk, hI]), ?_⟩
    exact below_putObj hB hK (by omega) _
 · go_enter Tryz.func52, Tryz.ntmps52
   simp only [vecV, lit9]
   have hz : (v 0 != 0) = true := by simp [h0]
   have Hv := H7 h0
   clear h0
   go_wp2_with fail
   refine bodyPost_ret (v := .int .i64 230) (by simp [results, Tryz.results52, go_sem]) rfl ⟨ret_int (by simp [errOf, vecOk, Hv.out]), ?_⟩
   exact ((B7 _ _).alloc (Nat.le_refl _) _).alloc (by simp) _
end Go.Proofs.YteklfmacnnmomaaGreat
/- Package vector: need, tries. -/
namespace Go.Proofs.YteklfmacnnmomaaGreat
open Go.RowKit Go.Shelf
/-- It panics with an error's number, and nothing that was there has changed. -/
def Raises (x : Int) (w : World) (e : Ending) (w' : World) : Prop := e = .panicked [{ v := .iface 34 (.int .i64 x), recovered := false }] ∧ Below w.heap.size w w'
theorem need_ok (x : Int) (w : World) : Calls Tryz.prog 89 #[.bool true, .int .i64 x] w fun e w' => e = .returned (.tuple #[]) ∧ w = w' := by
 go_enter Tryz.func89, Tryz.ntmps89
 go_wp2
 go_end0
 exact ⟨rfl, rfl⟩
theorem need_no (x : Int) (w : World) : Calls Tryz.prog 89 #[.bool false, .int .i64 x] w fun e w' => e = .panicked [{ v := .iface 34 (.int .i64 x), recovered := false }] ∧ w = w' := by
 go_enter Tryz.func89, Tryz.ntmps89
 go_wp2
 exact ⟨rfl, rfl, rfl⟩
set_option maxRecDepth 100000 in
set_option maxHeartbeats 1000000 in
theorem catch_panicking (p q : Nat) (hpq : p ≠ q) (o : Nat → Int) (y x : Int) (older : List PanicEntry) (w : World) (hp : w.heap[p]? = some (.cells (lit9 o) 24 (0, 0))) (hq : w.heap[q]? = some (.cells #[.int .i64 y] 34 (0, 0))) :
 CallsD Tryz.prog 88 #[.pointer (some ⟨p, 0, none⟩), .pointer (some ⟨q, 0, none⟩)] (.panicking ({ v := .iface 34 (.int .i64 x), recovered := false } :: older)) w fun e u' w' =>
  e = .returned (.tuple #[]) ∧ u' = .panicking ({ v := .iface 34 (.int .i64 x), recovered := true } :: older) ∧
  (w'.heap[p]? = some (.cells (lit9 fun _ => 0) 24 (0, 0)) ∧ w'.heap[q]? = some (.cells #[.int .i64 x] 34 (0, 0)) ∧ ∀ n₀, n₀ ≤ p → n₀ ≤ q → Below n₀ w w') := by
 have c0 := c7b hp (lit9_get o 0 (by omega))
 have c1 := c7b hp (lit9_get o 1 (by omega))
 have c2 := c7b hp (lit9_get o 2 (by omega))
 have c3 := c7b hp (lit9_get o 3 (by omega))
 have c4 := c7b hp (lit9_get o 4 (by omega))
 have c5 := c7b hp (lit9_get o 5 (by omega))
 have c6 := c7b hp (lit9_get o 6 (by omega))
 have c7 := c7b hp (lit9_get o 7 (by omega))
 have c8 := c7b hp (lit9_get o 8 (by omega))
 have fp := f7b hp
 have dq := c7b (k := 0) hq rfl
 have fq := f7b hq 0
 have lp := b7t hp
 have lq := b7t hq
 have Hp := H7 hp
 have Hq := H7 hq
 clear hp hq
 have hqp : ¬ q = p := fun e => hpq e.symm
 refine callsD_of_wpS Tryz.func88 rfl fun c₀ cs hu => ?_
 simp only [Tryz.ntmps88, List.size_toArray, List.length_cons, List.length_nil, Nat.reduceAdd, Nat.reduceSub, Array.replicate_succ, Array.replicate_zero, List.push_toArray, List.append_toArray, List.nil_append, List.cons_append]
 apply wpS_seq
 apply wpS_region
 simp [wpOpsS, go_sem, recoverD, hu, Exit.thenS]
 refine wpS_of_wp ?_
 have hta : ∀ w, (Instr.typeAssert (.iface 34 (.int .i64 x)) 20 34 true).run Tryz.prog w = .ok (.tuple #[.int .i64 x, .bool true]) w := fun _ => by kernel_rfl
 go_wp2
 refine ⟨rfl, _, rfl, _, results_none rfl _ _ _, rfl, rfl, ?_, ?_, ?_⟩
 · exact heap_alloc_keeps (h7o (heap_set9 (fun _ => 0) Hp.out) (fun e => hpq e.symm) _) _
 · exact heap_alloc_keeps (h7s (heap_set9_other (fun _ => 0) Hq.out hpq) _) _
 · intro n₀ h1 h2
   refine Below.alloc (Below.setCell (below_set9 (fun _ => 0) (B7 _ _) h1) (by simpa using h2) _) (by simp; omega) _
theorem catch_idle (p q : Addr) (w : World) :
 CallsD Tryz.prog 88 #[.pointer (some p), .pointer (some q)] .returning w fun e u' w' => e = .returned (.tuple #[]) ∧ u' = .returning ∧ w = w' := by
 refine callsD_of_wpS Tryz.func88 rfl fun c₀ cs hu => ?_
 simp only [Tryz.ntmps88, List.size_toArray, List.length_cons, List.length_nil, Nat.reduceAdd, Nat.reduceSub, Array.replicate_succ, Array.replicate_zero, List.push_toArray, List.append_toArray, List.nil_append, List.cons_append]
 apply wpS_seq
 apply wpS_region
 simp [wpOpsS, go_sem, recoverD, hu, Exit.thenS]
 refine wpS_of_wp ?_
 go_wp2
 exact ⟨rfl, c₀.mode, rfl, _, results_none rfl _ _ _, rfl, hu, rfl⟩
/-- 'tries' over a closure that returns. -/
theorem tries_ok (g : Nat) (lb : Array Value) (w : World) (o : Nat → Int) (hg : ∀ args w, (callFunc g args).run Tryz.prog w = .ok (.enter g args) w)
 (h : ∀ w1, Below w.heap.size w w1 → Calls Tryz.prog g lb w1 (Gives (vecV o) w1)) :
 Calls Tryz.prog 74 #[.func (.func g) #[] lb] w (Gives (.tuple #[vecV o, .int .i64 0]) w) := by
 have hmf : ∀ (fn : Fn) (first cap : Array Value) (w : World), (Instr.makeFunc fn first cap).run Tryz.prog w = .ok (.func fn first cap) w := fun _ _ _ _ => rfl
 have H := H7 h
 clear h
 go_enter_defers Tryz.func74, Tryz.ntmps74
 go_wp2_with fail
 refine (H.out _ (by (repeat (first | exact B7 _ _ | assumption | refine Below.alloc ?_ (by first | omega | (simp; done) | (simp; omega)) _ | refine Below.setCell ?_ (by first | omega | (simp; done) | (simp; omega)) _ | refine Below.drew ?_)))).mono ?_
 rintro e w1 ⟨rfl, hb⟩
 obtain ⟨hc, hf⟩ := bcell hb
 have hz := hb.size
 simp at hz
 simp only [vecV, lit9]
 go_wp2
 refine leaves_cons (f := 88) (args := #[.pointer (some ⟨w.heap.size, 0, none⟩), .pointer (some ⟨w.heap.size + 1, 0, none⟩)]) (by simp) (by simp [go_sem]) ?_
 refine (catch_idle _ _ _).mono ?_
 rintro e u' w'' ⟨rfl, rfl, rfl⟩
 have h0 : w1.heap[w.heap.size]? = some (.cells (lit9 fun _ => 0) 24 (0, 0)) := (hb.block _ (by simp; omega)).trans (heap_alloc_keeps (World.alloc_heap_new w _) _)
 have h1 : w1.heap[w.heap.size + 1]? = some (.cells #[.int .i64 0] 34 (0, 0)) := by
  refine (hb.block _ (by simp)).trans ?_
  have := World.alloc_heap_new (w.alloc (.cells (lit9 fun _ => 0) 24)) (.cells #[.int .i64 0] 34)
  rw [World.size_alloc] at this
  exact this
 have g0 := h7o (b' := w.heap.size + 1) (k := 0) (heap_set9 o h0) (by omega : w.heap.size + 1 ≠ w.heap.size) (.int .i64 0)
 have g1 := h7s (k := 0) (heap_set9_other o h1 (by omega : w.heap.size ≠ w.heap.size + 1)) (.int .i64 0)
 have hB := Below.setCell (p := ⟨w.heap.size + 1, 0, none⟩) (below_set9 (p := w.heap.size) o (hb.mono (B' := w.heap.size) (by simp; omega)) (Nat.le_refl _)) (by simp) (.int .i64 0)
 have hB2 : Below w.heap.size w _ := ((((B7 w.heap.size w).alloc (Nat.le_refl _) _).alloc (by simp) _).trans hB)
 clear hc hf hz hb
 revert g0 g1 hB2
 clear hB
 generalize World.setCell _ _ (Value.int IntKind.i64 0) = W2
 intro g0 g1 hB2
 have c0 := c7b g0 (lit9_get o 0 (by omega))
 have c1 := c7b g0 (lit9_get o 1 (by omega))
 have c2 := c7b g0 (lit9_get o 2 (by omega))
 have c3 := c7b g0 (lit9_get o 3 (by omega))
 have c4 := c7b g0 (lit9_get o 4 (by omega))
 have c5 := c7b g0 (lit9_get o 5 (by omega))
 have c6 := c7b g0 (lit9_get o 6 (by omega))
 have c7 := c7b g0 (lit9_get o 7 (by omega))
 have c8 := c7b g0 (lit9_get o 8 (by omega))
 have d0 := c7b (k := 0) (v := .int .i64 0) g1 rfl
 clear h0 h1 g0 g1
 simp [Leaves, settle, results, Tryz.results74, go_sem, c0, c1, c2, c3, c4, c5, c6, c7, c8, d0]
 exact ⟨rfl, hB2⟩
/-- 'tries' over a closure that panics with an error. -/
theorem tries_err (g : Nat) (lb : Array Value) (w : World) (x : Int) (hg : ∀ args w, (callFunc g args).run Tryz.prog w = .ok (.enter g args) w)
 (h : ∀ w1, Below w.heap.size w w1 → Calls Tryz.prog g lb w1 (Raises x w1)) :
 Calls Tryz.prog 74 #[.func (.func g) #[] lb] w (Gives (.tuple #[vecV fun _ => 0, .int .i64 x]) w) := by
 have hmf : ∀ (fn : Fn) (first cap : Array Value) (w : World), (Instr.makeFunc fn first cap).run Tryz.prog w = .ok (.func fn first cap) w := fun _ _ _ _ => rfl
 have H := H7 h
 clear h
 go_enter_defers Tryz.func74, Tryz.ntmps74
 go_wp2_with fail
 refine (H.out _ (by (repeat (first | exact B7 _ _ | assumption | refine Below.alloc ?_ (by first | omega | (simp; done) | (simp; omega)) _ | refine Below.setCell ?_ (by first | omega | (simp; done) | (simp; omega)) _ | refine Below.drew ?_)))).mono ?_
 rintro e w1 ⟨rfl, hb⟩
 have h0 : w1.heap[w.heap.size]? = some (.cells (lit9 fun _ => 0) 24 (0, 0)) := (hb.block _ (by simp; omega)).trans (heap_alloc_keeps (World.alloc_heap_new w _) _)
 have h1 : w1.heap[w.heap.size + 1]? = some (.cells #[.int .i64 0] 34 (0, 0)) := by
  refine (hb.block _ (by simp)).trans ?_
  have := World.alloc_heap_new (w.alloc (.cells (lit9 fun _ => 0) 24)) (.cells #[.int .i64 0] 34)
  rw [World.size_alloc] at this
  exact this
 have hB1 : Below w.heap.size w w1 := ((((B7 w.heap.size w).alloc (Nat.le_refl _) _).alloc (by simp) _).trans (hb.mono (B' := w.heap.size) (by simp; omega)))
 clear hb
 refine leaves_cons (f := 88) (args := #[.pointer (some ⟨w.heap.size, 0, none⟩), .pointer (some ⟨w.heap.size + 1, 0, none⟩)]) (by simp) (by simp [go_sem]) ?_
 refine (catch_panicking _ _ (by omega) _ _ _ _ _ h0 h1).mono ?_
 rintro e u' W2 ⟨rfl, rfl, g0, g1, hb2⟩
 have hB2 := hB1.trans (hb2 w.heap.size (Nat.le_refl _) (by omega))
 have c0 := c7b g0 (lit9_get (fun _ => 0) 0 (by omega))
 have c1 := c7b g0 (lit9_get (fun _ => 0) 1 (by omega))
 have c2 := c7b g0 (lit9_get (fun _ => 0) 2 (by omega))
 have c3 := c7b g0 (lit9_get (fun _ => 0) 3 (by omega))
 have c4 := c7b g0 (lit9_get (fun _ => 0) 4 (by omega))
 have c5 := c7b g0 (lit9_get (fun _ => 0) 5 (by omega))
 have c6 := c7b g0 (lit9_get (fun _ => 0) 6 (by omega))
 have c7 := c7b g0 (lit9_get (fun _ => 0) 7 (by omega))
 have c8 := c7b g0 (lit9_get (fun _ => 0) 8 (by omega))
 have d0 := c7b (k := 0) (v := .int .i64 x) g1 rfl
 clear h0 h1 g0 g1 hB1 hb2
 simp [Leaves, settle, results, Tryz.results74, go_sem, c0, c1, c2, c3, c4, c5, c6, c7, c8, d0]
 exact ⟨rfl, hB2⟩
/- Package vector: Join, Meet: what the numbers of vectors come to. -/
theorem max_fn (a b : Int) (w : World) : Calls Tryz.prog 77 #[.int .u64 a, .int .u64 b] w fun e w' => e = .returned (.int .u64 (max a b)) ∧ w = w' := by
 go_enter Tryz.func77, Tryz.ntmps77
 go_wp2
 all_goals
  go_ret
  exact ⟨ret_int (by omega), rfl⟩
theorem same_fn (a : Int) (w : World) : Calls Tryz.prog 78 #[.int .u64 a] w fun e w' => e = .returned (.int .u64 a) ∧ w = w' := by
 go_enter Tryz.func78, Tryz.ntmps78
 go_wp2
 go_ret
 exact ⟨rfl, rfl⟩
/-- A row of vectors: element i's number of site k. -/
def vecCells (x : Nat → Nat → Int) (j : Nat) : Value := .int .u64 (x (j / 9) (j % 9))
theorem vecElem {w : World} {b off n : Nat} {x : Nat → Nat → Int} (hc : ∀ j, j < n * 9 → w.cell? ⟨b, off + j, none⟩ = some (vecCells x j)) {k : Nat} (hk : k < n) :
 w.cell? ⟨b, off + k * 9, none⟩ = some (.int .u64 (x k 0)) ∧ w.cell? ⟨b, off + k * 9 + 1, none⟩ = some (.int .u64 (x k 1)) ∧ w.cell? ⟨b, off + k * 9 + 2, none⟩ = some (.int .u64 (x k 2)) ∧
 w.cell? ⟨b, off + k * 9 + 3, none⟩ = some (.int .u64 (x k 3)) ∧ w.cell? ⟨b, off + k * 9 + 4, none⟩ = some (.int .u64 (x k 4)) ∧ w.cell? ⟨b, off + k * 9 + 5, none⟩ = some (.int .u64 (x k 5)) ∧
 w.cell? ⟨b, off + k * 9 + 6, none⟩ = some (.int .u64 (x k 6)) ∧ w.cell? ⟨b, off + k * 9 + 7, none⟩ = some (.int .u64 (x k 7)) ∧ w.cell? ⟨b, off + k * 9 + 8, none⟩ = some (.int .u64 (x k 8)) := by
 have key : ∀ j, j < 9 → w.cell? ⟨b, off + k * 9 + j, none⟩ = some (.int .u64 (x k j)) := by
  intro j hj
  have h := hc (k * 9 + j) (by omega)
  rw [← Nat.add_assoc] at h
  rw [h]
  unfold vecCells
  rw [show (k * 9 + j) / 9 = k from by omega, show (k * 9 + j) % 9 = j from by omega]
 exact ⟨key 0 (by omega), key 1 (by omega), key 2 (by omega), key 3 (by omega), key 4 (by omega), key 5 (by omega), key 6 (by omega), key 7 (by omega), key 8 (by omega)⟩
set_option maxRecDepth 100000 in
set_option maxHeartbeats 2000000 in
theorem merged_no (ft : Nat) (v : Nat → Int) (sv : Value) (n : Nat) (x : Nat → Nat → Int) (w : World) (hn : n ≤ 1000000) (he : Elems w sv n 9 (vecCells x))
 (hno : ¬ (vecOk v = true ∧ ∀ i, i < n → vecOk (x i) = true)) :
 Calls Tryz.prog 76 #[vecV v, sv, .func (.func ft) #[] #[], .func (.func 78) #[] #[]] w (Raises 230 w) := by
 cases hv : vecOk v
 · go_enter Tryz.func76, Tryz.ntmps76
   simp only [vecV, lit9]
   go_wp2_with (first | (go_at_call 52; refine (vecCheck_any v _).mono ?_; rintro e w1 ⟨rfl, hb⟩; simp only [errOf, hv]) | (go_at_call 89; refine (need_no _ _).mono ?_; rintro e w' ⟨rfl, rfl⟩))
   exact ⟨rfl, rfl, ((((B7 w.heap.size w).alloc (Nat.le_refl _) _).alloc (by simp) _).trans (hb.mono (by simp; omega)))⟩
 · have hno' : ∃ i, i < n ∧ vecOk (x i) = false := by
    rcases Classical.em (∃ i, i < n ∧ vecOk (x i) = false) with h | h
    · exact h
    · exfalso
      refine hno ⟨hv, fun i hi => ?_⟩
      cases hb : vecOk (x i) with
      | true => rfl
      | false => exact absurd ⟨i, hi, hb⟩ h
   have Hno := H7 hno'
   clear hno hno'
   rcases he with ⟨rfl, rfl⟩ | ⟨b, off, cap, rfl, hlt, hc⟩
   · obtain ⟨i, hi, _⟩ := Hno.out
     omega
   · go_enter Tryz.func76, Tryz.ntmps76
     simp only [vecV, lit9]
     go_wp2_with (first | (go_at_call 52; refine (vecCheck_any v _).mono ?_; rintro e w1 ⟨rfl, hb⟩; simp only [errOf, hv]) | (go_at_call 89; refine (need_ok _ _).mono ?_; rintro e w' ⟨rfl, rfl⟩))
     have hB : Below w.heap.size w w1 := ((((B7 w.heap.size w).alloc (Nat.le_refl _) _).alloc (by simp) _).trans (hb.mono (by simp; omega)))
     have hc1 : ∀ j, j < n * 9 → w1.cell? ⟨b, off + j, none⟩ = some (vecCells x j) := fun j hj => (hB.cell (p := ⟨b, off + j, none⟩) hlt).trans (hc j hj)
     have hlt1 : b < w1.heap.size := Nat.lt_of_lt_of_le hlt hB.size
     have HB := H7 hB
     have HC := H7 hc1
     clear hB hb hc hc1 hlt
     go_loopw [20] (fun i wr => ∃ k : Nat, k ≤ n ∧ i = .int .i64 k ∧ (∀ j, j < k → vecOk (x j) = true) ∧ Below w1.heap.size w1 wr) (fun i _ => n - (intOf i).toNat)
     case atStart => exact ⟨0, Nat.zero_le _, rfl, fun j hj => absurd hj (Nat.not_lt_zero _), B7 _ _⟩
     case round =>
      obtain ⟨k, hk, rfl, hok, hbr⟩ := hrel
      have Hok := H7 hok
      have Hbr := H7 hbr
      clear hok hbr
      by_cases hkn : k < n
      · obtain ⟨e0, e1, e2, e3, e4, e5, e6, e7, e8⟩ := vecElem (fun j hj => (Hbr.out.cell (p := ⟨b, off + j, none⟩) hlt1).trans (HC.out j hj)) hkn
        go_wp2_with fail
        refine (vecCheck_any (x k) _).mono ?_
        rintro e w2 ⟨rfl, hb2⟩
        have hw2 := (Hbr.out.alloc Hbr.out.size _).trans (hb2.mono (by have := Hbr.out.size; simp; omega))
        have Hw2 := H7 hw2
        clear hw2 hb2
        cases hxk : vecOk (x k)
        · simp only [errOf]
          go_wp2_with (go_at_call 89; refine (need_no _ _).mono ?_; rintro e w' ⟨rfl, rfl⟩)
          exact ⟨rfl, rfl, HB.out.trans (Hw2.out.mono HB.out.size)⟩
        · simp only [errOf]
          go_wp2_with (go_at_call 89; refine (need_ok _ _).mono ?_; rintro e w' ⟨rfl, rfl⟩)
          go_roundw
          case rel =>
           refine ⟨k + 1, by omega, by go_num, fun j hj => ?_, Hw2.out⟩
           rcases Nat.lt_or_eq_of_le (Nat.lt_succ_iff.1 hj) with h | rfl
           · exact Hok.out j h
           · exact hxk
          case measure => simp [intOf]; omega
      · exfalso
        obtain ⟨i, hi, hi2⟩ := Hno.out
        have := Hok.out i (by omega)
        rw [this] at hi2
        cases hi2
/- Package vector: what the numbers of vectors come to. -/
/-- What the first i vectors of a row come to with v, site by site. -/
def mergeN (f : Int → Int → Int) (v : Nat → Int) (x : Nat → Nat → Int) : Nat → Nat → Int
 | 0, s => v s
 | i + 1, s => f (mergeN f v x i s) (x i s)
/-- .. and of vector i the first j sites. -/
def mergeTo (f : Int → Int → Int) (v : Nat → Int) (x : Nat → Nat → Int) (i j : Nat) (s : Nat) : Int := if s < j then mergeN f v x (i + 1) s else mergeN f v x i s
theorem mergeTo_zero (f : Int → Int → Int) (v : Nat → Int) (x : Nat → Nat → Int) (i : Nat) : mergeTo f v x i 0 = mergeN f v x i := by funext s; simp [mergeTo]
theorem mergeTo_last (f : Int → Int → Int) (v : Nat → Int) (x : Nat → Nat → Int) (i : Nat) : lit9 (mergeTo f v x i 9) = lit9 (mergeN f v x (i + 1)) := lit9_ext fun s hs => by simp [mergeTo, hs]
theorem mergeTo_here (f : Int → Int → Int) (v : Nat → Int) (x : Nat → Nat → Int) (i j : Nat) : mergeTo f v x i j j = mergeN f v x i j := by simp [mergeTo]
theorem mergeTo_succ (f : Int → Int → Int) (v : Nat → Int) (x : Nat → Nat → Int) (i j : Nat) : upd (mergeTo f v x i j) j (f (mergeN f v x i j) (x i j)) = mergeTo f v x i (j + 1) := by
 funext s
 unfold upd mergeTo
 by_cases h : s = j
 · subst h; simp [mergeN]
 · by_cases h2 : s < j
   · simp [h, h2, Nat.lt_succ_of_lt h2]
   · have : ¬ s < j + 1 := by omega
     simp [h, h2, this]
set_option maxRecDepth 100000 in
set_option maxHeartbeats 4000000 in
theorem merged_yes (ft : Nat) (f : Int → Int → Int) (hft : ∀ args w, (callFunc ft args).run Tryz.prog w = .ok (.enter ft args) w) (hf : ∀ (a b : Int) (w : World), Calls Tryz.prog ft #[.int .u64 a, .int .u64 b] w fun e w' => e = .returned (.int .u64 (f a b)) ∧ w = w')
 (v : Nat → Int) (sv : Value) (n : Nat) (x : Nat → Nat → Int) (w : World) (hn : n ≤ 1000000) (he : Elems w sv n 9 (vecCells x))
 (hv : vecOk v = true) (hx : ∀ i, i < n → vecOk (x i) = true) :
 Calls Tryz.prog 76 #[vecV v, sv, .func (.func ft) #[] #[], .func (.func 78) #[] #[]] w (Gives (vecV (mergeN f v x n)) w) := by
 have Hf := H7 hf
 have Hx := H7 hx
 clear hf hx
 rcases he with ⟨rfl, rfl⟩ | ⟨b, off, cap, rfl, hlt, hc⟩
 · go_enter Tryz.func76, Tryz.ntmps76
   simp only [vecV, lit9]
   go_wp2_with (first | (go_at_call 52; refine (vecCheck_any v _).mono ?_; rintro e w1 ⟨rfl, hb⟩; simp only [errOf, hv]) | (go_at_call 89; refine (need_ok _ _).mono ?_; rintro e w' ⟨rfl, rfl⟩))
   have hB : Below w.heap.size w w1 := ((((B7 w.heap.size w).alloc (Nat.le_refl _) _).alloc (by simp) _).trans (hb.mono (by simp; omega)))
   have hbv : w1.heap[w.heap.size]? = some (.cells (lit9 v) 24 (0, 0)) := (hb.block _ (by simp; omega)).trans (heap_alloc_keeps (World.alloc_heap_new w _) _)
   have hbr : w1.heap[w.heap.size + 1]? = some (.cells (lit9 fun _ => 0) 24 (0, 0)) := by
    refine (hb.block _ (by simp)).trans ?_
    have := World.alloc_heap_new (w.alloc (.cells (lit9 v) 24)) (.cells (lit9 fun _ => 0) 24)
    rw [World.size_alloc] at this
    exact this
   clear hb hv
   have c0 := c7b hbv (lit9_get _ 0 (by omega))
   have c1 := c7b hbv (lit9_get _ 1 (by omega))
   have c2 := c7b hbv (lit9_get _ 2 (by omega))
   have c3 := c7b hbv (lit9_get _ 3 (by omega))
   have c4 := c7b hbv (lit9_get _ 4 (by omega))
   have c5 := c7b hbv (lit9_get _ 5 (by omega))
   have c6 := c7b hbv (lit9_get _ 6 (by omega))
   have c7 := c7b hbv (lit9_get _ 7 (by omega))
   have c8 := c7b hbv (lit9_get _ 8 (by omega))
   have d0 := c7b hbr (lit9_get _ 0 (by omega))
   have d1 := c7b hbr (lit9_get _ 1 (by omega))
   have d2 := c7b hbr (lit9_get _ 2 (by omega))
   have d3 := c7b hbr (lit9_get _ 3 (by omega))
   have d4 := c7b hbr (lit9_get _ 4 (by omega))
   have d5 := c7b hbr (lit9_get _ 5 (by omega))
   have d6 := c7b hbr (lit9_get _ 6 (by omega))
   have d7 := c7b hbr (lit9_get _ 7 (by omega))
   have d8 := c7b hbr (lit9_get _ 8 (by omega))
   have fr := f7b hbr
   clear hbv hbr
   have HB := H7 hB
   clear hB
   go_loopw [20] (fun i wr => i = .int .i64 0 ∧ w1 = wr) (fun _ _ => 0)
   case atStart => exact ⟨rfl, rfl⟩
   case round =>
    obtain ⟨rfl, rfl⟩ := hrel
    go_wp2_with fail
    go_loopw [31] (fun i wr => i = .int .i64 0 ∧ w1 = wr) (fun _ _ => 0)
    case atStart => exact ⟨rfl, rfl⟩
    case round =>
     obtain ⟨rfl, rfl⟩ := hrel
     go_wp2_with fail
     refine bodyPost_ret (v := vecV v) (by simp [vecV, lit9, results, Tryz.results76, go_sem, d0, d1, d2, d3, d4, d5, d6, d7, d8]) rfl ⟨rfl, ?_⟩
     exact below_set9 _ HB.out (by omega)
 · go_enter Tryz.func76, Tryz.ntmps76
   simp only [vecV, lit9]
   go_wp2_with (first | (go_at_call 52; refine (vecCheck_any v _).mono ?_; rintro e w1 ⟨rfl, hb⟩; simp only [errOf, hv]) | (go_at_call 89; refine (need_ok _ _).mono ?_; rintro e w' ⟨rfl, rfl⟩))
   have hB : Below w.heap.size w w1 := ((((B7 w.heap.size w).alloc (Nat.le_refl _) _).alloc (by simp) _).trans (hb.mono (by simp; omega)))
   have hbv : w1.heap[w.heap.size]? = some (.cells (lit9 v) 24 (0, 0)) := (hb.block _ (by simp; omega)).trans (heap_alloc_keeps (World.alloc_heap_new w _) _)
   have hbr : w1.heap[w.heap.size + 1]? = some (.cells (lit9 fun _ => 0) 24 (0, 0)) := by
    refine (hb.block _ (by simp)).trans ?_
    have := World.alloc_heap_new (w.alloc (.cells (lit9 v) 24)) (.cells (lit9 fun _ => 0) 24)
    rw [World.size_alloc] at this
    exact this
   have HB := H7 hB
   have HC := H7 hc
   have Hbv := H7 hbv
   have Hbr := H7 hbr
   have Hv := H7 hv
   clear hB hb hc hbv hbr hv
   go_loopw [20] (fun i wr => ∃ k : Nat, k ≤ n ∧ i = .int .i64 k ∧ Below w1.heap.size w1 wr) (fun i _ => n - (intOf i).toNat)
   case atStart => exact ⟨0, Nat.zero_le _, rfl, B7 _ _⟩
   case round =>
    obtain ⟨k, hk, rfl, hbr⟩ := hrel
    have Hb1 := H7 hbr
    clear hbr
    by_cases hkn : k < n
    · obtain ⟨e0, e1, e2, e3, e4, e5, e6, e7, e8⟩ := vecElem (fun j hj => ((HB.out.trans (Hb1.out.mono HB.out.size)).cell (p := ⟨b, off + j, none⟩) hlt).trans (HC.out j hj)) hkn
      go_wp2_with fail
      refine (vecCheck_any (x k) _).mono ?_
      rintro e w2 ⟨rfl, hb2⟩
      have hw2 := (Hb1.out.alloc Hb1.out.size _).trans (hb2.mono (by have := Hb1.out.size; simp; omega))
      have Hw2 := H7 hw2
      clear hw2 hb2
      rw [Hx.out k hkn]
      simp only [errOf]
      go_wp2_with (go_at_call 89; refine (need_ok _ _).mono ?_; rintro e w' ⟨rfl, rfl⟩)
      go_roundw
      case rel => exact ⟨k + 1, by omega, by go_num, Hw2.out⟩
      case measure => simp [intOf]; omega
    · obtain rfl : n = k := by omega
      have hA := HB.out.trans (Hb1.out.mono HB.out.size)
      have hbv : wr.heap[w.heap.size]? = some (.cells (lit9 (mergeN f v x 0)) 24 (0, 0)) := (Hb1.out.block _ (b7t Hbv.out)).trans Hbv.out
      have hbr : wr.heap[w.heap.size + 1]? = some (.cells (lit9 fun _ => 0) 24 (0, 0)) := (Hb1.out.block _ (b7t Hbr.out)).trans Hbr.out
      clear HB Hb1 Hbv Hbr
      have HA := H7 hA
      have Hbv := H7 hbv
      have Hbr := H7 hbr
      clear hA hbv hbr
      clear hk hkn
      obtain ⟨wa, hwa⟩ : ∃ wa : World, wa = wr := ⟨_, rfl⟩
      rw [← hwa] at HA Hbv Hbr ⊢
      clear hwa
      go_wp2_with fail
      go_loopw [31] (fun i wr => ∃ k : Nat, k ≤ n ∧ i = .int .i64 k ∧ Below w.heap.size w wr ∧ wr.heap[w.heap.size]? = some (.cells (lit9 (mergeN f v x k)) 24 (0, 0)) ∧ wr.heap[w.heap.size + 1]? = some (.cells (lit9 fun _ => 0) 24 (0, 0))) (fun i _ => n - (intOf i).toNat)
      case atStart => exact ⟨0, Nat.zero_le _, rfl, HA.out, Hbv.out, Hbr.out⟩
      case round =>
       obtain ⟨k, hk, rfl, hA, hbv, hbr⟩ := hrel
       clear HA Hbv Hbr
       have HA := H7 hA
       have Hbv := H7 hbv
       have Hbr := H7 hbr
       clear hA hbv hbr
       by_cases hkn : k < n
       · obtain ⟨e0, e1, e2, e3, e4, e5, e6, e7, e8⟩ := vecElem (fun j hj => (HA.out.cell (p := ⟨b, off + j, none⟩) hlt).trans (HC.out j hj)) hkn
         go_wp2_with fail
         clear e0 e1 e2 e3 e4 e5 e6 e7 e8
         obtain ⟨wo, hwo⟩ : ∃ wo : World, wo = wr := ⟨_, rfl⟩
         rw [← hwo] at HA Hbv Hbr ⊢
         clear hwo
         go_loopw [35] (fun j wr => ∃ m : Nat, m ≤ 9 ∧ j = .int .i64 m ∧ Below w.heap.size w wr ∧ wr.heap[w.heap.size]? = some (.cells (lit9 (mergeTo f v x k m)) 24 (0, 0)) ∧ wr.heap[w.heap.size + 1]? = some (.cells (lit9 fun _ => 0) 24 (0, 0)) ∧ wr.heap[wo.heap.size]? = some (.cells (lit9 (x k)) 24 (0, 0))) (fun i _ => 9 - (intOf i).toNat)
         case atStart =>
          refine ⟨0, Nat.zero_le _, rfl, HA.out.alloc HA.out.size _, ?_, heap_alloc_keeps Hbr.out _, World.alloc_heap_new _ _⟩
          rw [mergeTo_zero]
          exact heap_alloc_keeps Hbv.out _
         case round =>
          obtain ⟨m, hm, rfl, hA, hbv, hbr, hbw⟩ := hrel
          have Hoa := H7 (b7t Hbv.out)
          clear HA Hbv Hbr
          have HA := H7 hA
          have Hbv := H7 hbv
          have Hbr := H7 hbr
          have Hbw := H7 hbw
          clear hA hbv hbr hbw
          by_cases hm9 : m < 9
          · have cv := c7b Hbv.out (lit9_get _ m hm9)
            have cw := c7b Hbw.out (lit9_get _ m hm9)
            rw [mergeTo_here] at cv
            have Cv := H7 cv
            have Cw := H7 cw
            clear cv cw
            go_wp2_with fail
            refine (wpIn_wide (n := 0)).1 ?_
            refine wp_region_facts (by kernel_rfl) [(fun v_ _ => v_ = (.int .i64 (m : Int) : Value)), (fun v_ _ => v_ = (.func (.func 78) #[] #[] : Value)), (fun v_ _ => v_ = (.func (.func ft) #[] #[] : Value)), (fun v_ _ => v_ = (.int .i64 (m : Int) : Value)), (fun v_ _ => v_ = (.pointer (some ⟨w.heap.size, m, none⟩) : Value)), (fun v_ _ => v_ = (.int .u64 (mergeN f v x k m) : Value)), (fun v_ _ => v_ = (.int .i64 (m : Int) : Value)), (fun v_ _ => v_ = (.pointer (some ⟨wo.heap.size, m, none⟩) : Value)), (fun v_ _ => v_ = (.int .u64 (x k m) : Value)), (fun v_ _ => v_ = (.int .u64 (f (mergeN f v x k m) (x k m)) : Value)), (fun v_ _ => v_ = (.int .u64 (f (mergeN f v x k m) (x k m)) : Value))] (fun x y => Below x.heap.size x y) (fun _ => B7 _ _) (fun h k => g7t h k) ⟨fun _ _ _ _ h => h, fun _ _ _ _ h => h, fun _ _ _ _ h => h, fun _ _ _ _ h => h, fun _ _ _ _ h => h, fun _ _ _ _ h => h, fun _ _ _ _ h => h, fun _ _ _ _ h => h, fun _ _ _ _ h => h, fun _ _ _ _ h => h, fun _ _ _ _ h => h, trivial⟩ (by kernel_rfl) (by kernel_rfl) (g7d _)  ?steps ?fin
            case steps =>
             refine ⟨?_, ?_, ?_, ?_, ?_, ?_, ?_, ?_, ?_, ?_, ?_, trivial⟩
             · intro a' w' hA hC hD; have s13 : a'.tmps[13]? = some (.int .i64 (m : Int)) := (hA.at 13 (by kernel_rfl)).trans rfl; clear hA hD; refine o7p rfl ?_; intro K hK; gi_wp2; exact hK (.int .i64 (m : Int)) _ rfl (B7 _ _)
             · intro a' w' hA hC hD; have s3 : a'.tmps[3]? = some (.func (.func 78) #[] #[]) := (hA.at 3 (by kernel_rfl)).trans rfl; clear hA hD; refine o7p rfl ?_; intro K hK; gi_wp2; exact hK (.func (.func 78) #[] #[]) _ rfl (B7 _ _)
             · intro a' w' hA hC hD; have s2 : a'.tmps[2]? = some (.func (.func ft) #[] #[]) := (hA.at 2 (by kernel_rfl)).trans rfl; clear hA hD; refine o7p rfl ?_; intro K hK; gi_wp2; exact hK (.func (.func ft) #[] #[]) _ rfl (B7 _ _)
             · intro a' w' hA hC hD; have s13 : a'.tmps[13]? = some (.int .i64 (m : Int)) := (hA.at 13 (by kernel_rfl)).trans rfl; clear hA hD; refine o7p rfl ?_; intro K hK; gi_wp2; exact hK (.int .i64 (m : Int)) _ rfl (B7 _ _)
             · intro a' w' hA hC hD; have s4 : a'.tmps[4]? = some (.pointer (some ⟨w.heap.size, 0, none⟩)) := (hA.at 4 (by kernel_rfl)).trans rfl; obtain ⟨u41, s41, r41⟩ := hD ⟨3, .data⟩ (by simp) rfl _ rfl; replace r41 : u41 = .int .i64 (m : Int) := r41; subst r41; clear hA hD; refine o7p rfl ?_; intro K hK; gi_wp2; exact hK (.pointer (some ⟨w.heap.size, m, none⟩)) _ rfl (B7 _ _)
             · intro a' w' hA hC hD; obtain ⟨u42, s42, r42⟩ := hD ⟨4, .data⟩ (by simp) rfl _ rfl; replace r42 : u42 = .pointer (some ⟨w.heap.size, m, none⟩) := r42; subst r42
               have c1 := (hC.cell (p := ⟨w.heap.size, m, none⟩) (b7t Hbv.out)).trans Cv.out
               clear hA hD; refine o7p rfl ?_; intro K hK; gi_wp2; exact hK (.int .u64 (mergeN f v x k m)) _ rfl (B7 _ _)
             · intro a' w' hA hC hD; have s13 : a'.tmps[13]? = some (.int .i64 (m : Int)) := (hA.at 13 (by kernel_rfl)).trans rfl; clear hA hD; refine o7p rfl ?_; intro K hK; gi_wp2; exact hK (.int .i64 (m : Int)) _ rfl (B7 _ _)
             · intro a' w' hA hC hD; have s12 : a'.tmps[12]? = some (.pointer (some ⟨wo.heap.size, 0, none⟩)) := (hA.at 12 (by kernel_rfl)).trans rfl; obtain ⟨u44, s44, r44⟩ := hD ⟨6, .data⟩ (by simp) rfl _ rfl; replace r44 : u44 = .int .i64 (m : Int) := r44; subst r44; clear hA hD; refine o7p rfl ?_; intro K hK; gi_wp2; exact hK (.pointer (some ⟨wo.heap.size, m, none⟩)) _ rfl (B7 _ _)
             · intro a' w' hA hC hD; obtain ⟨u45, s45, r45⟩ := hD ⟨7, .data⟩ (by simp) rfl _ rfl; replace r45 : u45 = .pointer (some ⟨wo.heap.size, m, none⟩) := r45; subst r45
               have c1 := (hC.cell (p := ⟨wo.heap.size, m, none⟩) (b7t Hbw.out)).trans Cw.out
               clear hA hD; refine o7p rfl ?_; intro K hK; gi_wp2; exact hK (.int .u64 (x k m)) _ rfl (B7 _ _)
             · intro a' w' hA hC hD; obtain ⟨u40, s40, r40⟩ := hD ⟨2, .data⟩ (by simp) rfl _ rfl; replace r40 : u40 = .func (.func ft) #[] #[] := r40; subst r40; obtain ⟨u43, s43, r43⟩ := hD ⟨5, .data⟩ (by simp) rfl _ rfl; replace r43 : u43 = .int .u64 (mergeN f v x k m) := r43; subst r43; obtain ⟨u46, s46, r46⟩ := hD ⟨8, .data⟩ (by simp) rfl _ rfl; replace r46 : u46 = .int .u64 (x k m) := r46; subst r46; clear hA hD; refine o7p rfl ?_; intro K hK
               gi_wp2_with fail; refine (callsIn_wide.2 (Hf.out _ _ _)).mono ?_; rintro e w'' ⟨rfl, rfl⟩
               exact hK (.int .u64 (f (mergeN f v x k m) (x k m))) _ rfl (B7 _ _)
             · intro a' w' hA hC hD; obtain ⟨u39, s39, r39⟩ := hD ⟨1, .data⟩ (by simp) rfl _ rfl; replace r39 : u39 = .func (.func 78) #[] #[] := r39; subst r39; obtain ⟨u47, s47, r47⟩ := hD ⟨9, .data⟩ (by simp) rfl _ rfl; replace r47 : u47 = .int .u64 (f (mergeN f v x k m) (x k m)) := r47; subst r47; clear hA hD; refine o7p rfl ?_; intro K hK
               gi_wp2_with fail; refine (callsIn_wide.2 (same_fn _ _)).mono ?_; rintro e w'' ⟨rfl, rfl⟩
               exact hK (.int .u64 (f (mergeN f v x k m) (x k m))) _ rfl (B7 _ _)
            case fin =>
             intro w3 hC
             simp only [EndFrom, forall_eq, Act.put, List.length_cons, List.length_nil, List.drop_succ_cons, List.drop_zero, Nat.reduceAdd]
             have b3 := (hC.block _ (b7t Hbv.out)).trans Hbv.out
             have r3 := (hC.block _ (b7t Hbr.out)).trans Hbr.out
             have v3 := (hC.block _ (b7t Hbw.out)).trans Hbw.out
             have HA3 := H7 (HA.out.trans (hC.mono HA.out.size))
             have c3 := (hC.cell (p := ⟨w.heap.size, m, none⟩) (b7t Hbv.out)).trans Cv.out
             have f3 := f7b b3 m
             have B3 := H7 b3
             have R3 := H7 r3
             have V3 := H7 v3
             clear hC b3 r3 v3 HA Hbv Hbr Hbw Cv Cw
             gi_wp2
             go_wp2
             go_roundw
             case rel =>
              refine ⟨m + 1, by omega, by go_num, HA3.out.setCell (p := ⟨w.heap.size, m, none⟩) (Nat.le_refl _) _, ?_, h7o R3.out (by omega) _, h7o V3.out (by have := Hoa.out; omega) _⟩
              rw [h7s B3.out, lit9_set _ _ _ hm9, mergeTo_succ]
             case measure => simp [intOf]; omega
          · obtain rfl : m = 9 := by omega
            go_wp2
            go_roundw
            case rel =>
             refine ⟨k + 1, by omega, by go_num, HA.out, ?_, Hbr.out⟩
             rw [← mergeTo_last]
             exact Hbv.out
            case measure => simp [intOf]; omega
       · obtain rfl : n = k := by omega
         have c0 := c7b Hbv.out (lit9_get _ 0 (by omega))
         have c1 := c7b Hbv.out (lit9_get _ 1 (by omega))
         have c2 := c7b Hbv.out (lit9_get _ 2 (by omega))
         have c3 := c7b Hbv.out (lit9_get _ 3 (by omega))
         have c4 := c7b Hbv.out (lit9_get _ 4 (by omega))
         have c5 := c7b Hbv.out (lit9_get _ 5 (by omega))
         have c6 := c7b Hbv.out (lit9_get _ 6 (by omega))
         have c7 := c7b Hbv.out (lit9_get _ 7 (by omega))
         have c8 := c7b Hbv.out (lit9_get _ 8 (by omega))
         have d0 := c7b Hbr.out (lit9_get _ 0 (by omega))
         have d1 := c7b Hbr.out (lit9_get _ 1 (by omega))
         have d2 := c7b Hbr.out (lit9_get _ 2 (by omega))
         have d3 := c7b Hbr.out (lit9_get _ 3 (by omega))
         have d4 := c7b Hbr.out (lit9_get _ 4 (by omega))
         have d5 := c7b Hbr.out (lit9_get _ 5 (by omega))
         have d6 := c7b Hbr.out (lit9_get _ 6 (by omega))
         have d7 := c7b Hbr.out (lit9_get _ 7 (by omega))
         have d8 := c7b Hbr.out (lit9_get _ 8 (by omega))
         have fr := f7b Hbr.out
         go_wp2
         refine bodyPost_ret (v := vecV (mergeN f v x n)) (by simp [vecV, lit9, results, Tryz.results76, go_sem, d0, d1, d2, d3, d4, d5, d6, d7, d8]) rfl ⟨rfl, ?_⟩
         exact below_set9 _ HA.out (by omega)
/- Package vector: Join, Meet. -/
theorem join1_ok (p q : Nat) (v : Nat → Int) (sv : Value) (n : Nat) (x : Nat → Nat → Int) (w : World) (hn : n ≤ 1000000) (hp : w.heap[p]? = some (.cells (lit9 v) 24 (0, 0))) (hq : w.heap[q]? = some (.cells #[sv] 61 (0, 0)))
 (he : Elems w sv n 9 (vecCells x)) (hv : vecOk v = true) (hx : ∀ i, i < n → vecOk (x i) = true) :
 Calls Tryz.prog 75 #[.pointer (some ⟨p, 0, none⟩), .pointer (some ⟨q, 0, none⟩)] w (Gives (vecV (mergeN max v x n)) w) := by
 have c0 := c7b hp (lit9_get _ 0 (by omega))
 have c1 := c7b hp (lit9_get _ 1 (by omega))
 have c2 := c7b hp (lit9_get _ 2 (by omega))
 have c3 := c7b hp (lit9_get _ 3 (by omega))
 have c4 := c7b hp (lit9_get _ 4 (by omega))
 have c5 := c7b hp (lit9_get _ 5 (by omega))
 have c6 := c7b hp (lit9_get _ 6 (by omega))
 have c7 := c7b hp (lit9_get _ 7 (by omega))
 have c8 := c7b hp (lit9_get _ 8 (by omega))
 have lp := b7t hp
 have lq := b7t hq
 have d0 := c7b (k := 0) (v := sv) hq rfl
 have He := H7 he
 have Hx := H7 hx
 have Hv := H7 hv
 clear he hx hv hp hq
 go_enter Tryz.func75, Tryz.ntmps75
 go_wp2_with fail
 refine (merged_yes 77 max (enters_of Tryz.func77 (by kernel_rfl) rfl) max_fn v sv n x _ hn (He.out.below (by (repeat (first | exact B7 _ _ | assumption | refine Below.alloc ?_ (by first | omega | (simp; done) | (simp; omega)) _ | refine Below.setCell ?_ (by first | omega | (simp; done) | (simp; omega)) _ | refine Below.drew ?_)))) Hv.out Hx.out).mono ?_
 rintro e w1 ⟨rfl, hb⟩
 obtain ⟨hc, hf⟩ := bcell hb
 have hz := hb.size
 simp at hz
 simp only [vecV, lit9]
 go_wp2
 refine bodyPost_ret (v := vecV (mergeN max v x n)) (by simp [vecV, lit9, results, Tryz.results75, go_sem, hc]) rfl ⟨rfl, ?_⟩
 exact below_set9 _ (((B7 _ _).alloc (Nat.le_refl _) _).trans (hb.mono (by simp))) (Nat.le_refl _)
theorem join1_no (p q : Nat) (v : Nat → Int) (sv : Value) (n : Nat) (x : Nat → Nat → Int) (w : World) (hn : n ≤ 1000000) (hp : w.heap[p]? = some (.cells (lit9 v) 24 (0, 0))) (hq : w.heap[q]? = some (.cells #[sv] 61 (0, 0)))
 (he : Elems w sv n 9 (vecCells x)) (hno : ¬ (vecOk v = true ∧ ∀ i, i < n → vecOk (x i) = true)) :
 Calls Tryz.prog 75 #[.pointer (some ⟨p, 0, none⟩), .pointer (some ⟨q, 0, none⟩)] w (Raises 230 w) := by
 have c0 := c7b hp (lit9_get _ 0 (by omega))
 have c1 := c7b hp (lit9_get _ 1 (by omega))
 have c2 := c7b hp (lit9_get _ 2 (by omega))
 have c3 := c7b hp (lit9_get _ 3 (by omega))
 have c4 := c7b hp (lit9_get _ 4 (by omega))
 have c5 := c7b hp (lit9_get _ 5 (by omega))
 have c6 := c7b hp (lit9_get _ 6 (by omega))
 have c7 := c7b hp (lit9_get _ 7 (by omega))
 have c8 := c7b hp (lit9_get _ 8 (by omega))
 have lp := b7t hp
 have lq := b7t hq
 have d0 := c7b (k := 0) (v := sv) hq rfl
 have He := H7 he
 have Hno := H7 hno
 clear he hno hp hq
 go_enter Tryz.func75, Tryz.ntmps75
 go_wp2_with fail
 refine (merged_no 77 v sv n x _ hn (He.out.below (by (repeat (first | exact B7 _ _ | assumption | refine Below.alloc ?_ (by first | omega | (simp; done) | (simp; omega)) _ | refine Below.setCell ?_ (by first | omega | (simp; done) | (simp; omega)) _ | refine Below.drew ?_)))) Hno.out).mono ?_
 rintro e w1 ⟨rfl, hb⟩
 exact ⟨rfl, rfl, ((B7 _ _).alloc (Nat.le_refl _) _).trans (hb.mono (by simp))⟩
theorem join_ok (v : Nat → Int) (sv : Value) (n : Nat) (x : Nat → Nat → Int) (w : World) (hn : n ≤ 1000000) (he : Elems w sv n 9 (vecCells x)) (hv : vecOk v = true) (hx : ∀ i, i < n → vecOk (x i) = true) :
 Calls Tryz.prog 65 #[vecV v, sv] w (Gives (.tuple #[vecV (mergeN max v x n), .int .i64 0]) w) := by
 have hmf : ∀ (fn : Fn) (first cap : Array Value) (w : World), (Instr.makeFunc fn first cap).run Tryz.prog w = .ok (.func fn first cap) w := fun _ _ _ _ => rfl
 have He := H7 he
 have Hx := H7 hx
 have Hv := H7 hv
 clear he hx hv
 obtain ⟨a, m, c, rfl⟩ : ∃ a m c, sv = .slice a m c := by
  rcases He.out with ⟨e, _⟩ | ⟨b, off, cap, e, _⟩
  · exact ⟨_, _, _, e⟩
  · exact ⟨_, _, _, e⟩
 go_enter Tryz.func65, Tryz.ntmps65
 simp only [vecV, lit9]
 go_wp2_with fail
 refine (tries_ok 75 _ _ (mergeN max v x n) (enters_of Tryz.func75 (by kernel_rfl) rfl) (fun w1 hb => join1_ok w.heap.size (w.heap.size + 1) v _ n x w1 hn ?g1 ?g2 (He.out.below ?g3) Hv.out Hx.out)).mono ?_
 case g1 => exact (hb.block _ (by simp; omega)).trans (heap_alloc_keeps (heap_alloc_keeps (World.alloc_heap_new w _) _) _)
 case g2 =>
  refine (hb.block _ (by simp)).trans (heap_alloc_keeps ?_ _)
  have := World.alloc_heap_new (w.alloc (.cells (lit9 v) 24)) (.cells #[.slice a m c] 61)
  rw [World.size_alloc] at this
  exact this
 case g3 => exact (show Below w.heap.size w _ by (repeat (first | exact B7 _ _ | assumption | refine Below.alloc ?_ (by first | omega | (simp; done) | (simp; omega)) _ | refine Below.setCell ?_ (by first | omega | (simp; done) | (simp; omega)) _ | refine Below.drew ?_))).trans (hb.mono (by simp; omega))
 rintro e w1 ⟨rfl, hb⟩
 obtain ⟨hc, hf⟩ := bcell hb
 have hz := hb.size
 simp at hz
 simp only [vecV, lit9]
 go_wp2
 refine bodyPost_ret (v := .tuple #[vecV (mergeN max v x n), .int .i64 0]) (by simp [vecV, lit9, results, Tryz.results65, go_sem, hc]) rfl ⟨rfl, ?_⟩
 exact below_set9 _ ((show Below w.heap.size w _ by (repeat (first | exact B7 _ _ | assumption | refine Below.alloc ?_ (by first | omega | (simp; done) | (simp; omega)) _ | refine Below.setCell ?_ (by first | omega | (simp; done) | (simp; omega)) _ | refine Below.drew ?_))).trans (hb.mono (by simp; omega))) (by omega)
theorem join_no (v : Nat → Int) (sv : Value) (n : Nat) (x : Nat → Nat → Int) (w : World) (hn : n ≤ 1000000) (he : Elems w sv n 9 (vecCells x)) (hno : ¬ (vecOk v = true ∧ ∀ i, i < n → vecOk (x i) = true)) :
 Calls Tryz.prog 65 #[vecV v, sv] w (Gives (.tuple #[vecV (fun _ => 0), .int .i64 230]) w) := by
 have hmf : ∀ (fn : Fn) (first cap : Array Value) (w : World), (Instr.makeFunc fn first cap).run Tryz.prog w = .ok (.func fn first cap) w := fun _ _ _ _ => rfl
 have He := H7 he
 have Hno := H7 hno
 clear he hno
 obtain ⟨a, m, c, rfl⟩ : ∃ a m c, sv = .slice a m c := by
  rcases He.out with ⟨e, _⟩ | ⟨b, off, cap, e, _⟩
  · exact ⟨_, _, _, e⟩
  · exact ⟨_, _, _, e⟩
 go_enter Tryz.func65, Tryz.ntmps65
 simp only [vecV, lit9]
 go_wp2_with fail
 refine (tries_err 75 _ _ 230 (enters_of Tryz.func75 (by kernel_rfl) rfl) (fun w1 hb => join1_no w.heap.size (w.heap.size + 1) v _ n x w1 hn ?g1 ?g2 (He.out.below ?g3) Hno.out)).mono ?_
 case g1 => exact (hb.block _ (by simp; omega)).trans (heap_alloc_keeps (heap_alloc_keeps (World.alloc_heap_new w _) _) _)
 case g2 =>
  refine (hb.block _ (by simp)).trans (heap_alloc_keeps ?_ _)
  have := World.alloc_heap_new (w.alloc (.cells (lit9 v) 24)) (.cells #[.slice a m c] 61)
  rw [World.size_alloc] at this
  exact this
 case g3 => exact (show Below w.heap.size w _ by (repeat (first | exact B7 _ _ | assumption | refine Below.alloc ?_ (by first | omega | (simp; done) | (simp; omega)) _ | refine Below.setCell ?_ (by first | omega | (simp; done) | (simp; omega)) _ | refine Below.drew ?_))).trans (hb.mono (by simp; omega))
 rintro e w1 ⟨rfl, hb⟩
 obtain ⟨hc, hf⟩ := bcell hb
 have hz := hb.size
 simp at hz
 simp only [vecV, lit9]
 go_wp2
 refine bodyPost_ret (v := .tuple #[vecV (fun _ => 0), .int .i64 230]) (by simp [vecV, lit9, results, Tryz.results65, go_sem, hc]) rfl ⟨rfl, ?_⟩
 exact below_set9 (fun _ => 0) ((show Below w.heap.size w _ by (repeat (first | exact B7 _ _ | assumption | refine Below.alloc ?_ (by first | omega | (simp; done) | (simp; omega)) _ | refine Below.setCell ?_ (by first | omega | (simp; done) | (simp; omega)) _ | refine Below.drew ?_))).trans (hb.mono (by simp; omega))) (by omega)
end Go.Proofs.YteklfmacnnmomaaGreat
