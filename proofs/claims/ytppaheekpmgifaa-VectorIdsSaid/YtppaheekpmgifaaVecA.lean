/- Package vector: the iterator over sites, Check. -/
import Derived.Test.YtppaheekpmgifaaIdent
namespace Go.Proofs.Ytppaheekpmgifaa
set_option linter.unusedSimpArgs false
set_option linter.unusedVariables false
open Go.RowKit Go.Shelf
attribute [local go_sem] Oper.semAt_some

/-- The cells of an array of nine numbers. -/
def lit9 (v : Nat → Int) : Array Value := #[.int .u64 (v 0), .int .u64 (v 1), .int .u64 (v 2), .int .u64 (v 3), .int .u64 (v 4), .int .u64 (v 5), .int .u64 (v 6), .int .u64 (v 7), .int .u64 (v 8)]
theorem lit9_size (v : Nat → Int) : (lit9 v).size = 9 := rfl
theorem lit9_get (v : Nat → Int) (k : Nat) (h : k < 9) : (lit9 v)[k]? = some (.int .u64 (v k)) := by
  match k, h with
  | 0, _ => rfl
  | 1, _ => rfl
  | 2, _ => rfl
  | 3, _ => rfl
  | 4, _ => rfl
  | 5, _ => rfl
  | 6, _ => rfl
  | 7, _ => rfl
  | 8, _ => rfl
theorem lit9_ext {v u : Nat → Int} (h : ∀ k, k < 9 → v k = u k) : lit9 v = lit9 u := by
  unfold lit9
  rw [h 0 (by omega), h 1 (by omega), h 2 (by omega), h 3 (by omega), h 4 (by omega), h 5 (by omega), h 6 (by omega), h 7 (by omega), h 8 (by omega)]
def upd (v : Nat → Int) (k : Nat) (x : Int) : Nat → Int := fun j => if j = k then x else v j
theorem lit9_set (v : Nat → Int) (k : Nat) (x : Int) (h : k < 9) : (lit9 v).setIfInBounds k (.int .u64 x) = lit9 (upd v k x) := by
  match k, h with
  | 0, _ => rfl
  | 1, _ => rfl
  | 2, _ => rfl
  | 3, _ => rfl
  | 4, _ => rfl
  | 5, _ => rfl
  | 6, _ => rfl
  | 7, _ => rfl
  | 8, _ => rfl

theorem vec9 {w : World} {p : Nat} {v : Nat → Int} {t : TypeId} {f : Nat × Nat} (h : w.heap[p]? = some (.cells (lit9 v) t f)) :
    w.cell? ⟨p, 0, none⟩ = some (.int .u64 (v 0)) ∧ w.cell? ⟨p, 1, none⟩ = some (.int .u64 (v 1)) ∧ w.cell? ⟨p, 2, none⟩ = some (.int .u64 (v 2)) ∧ w.cell? ⟨p, 3, none⟩ = some (.int .u64 (v 3)) ∧ w.cell? ⟨p, 4, none⟩ = some (.int .u64 (v 4)) ∧ w.cell? ⟨p, 5, none⟩ = some (.int .u64 (v 5)) ∧ w.cell? ⟨p, 6, none⟩ = some (.int .u64 (v 6)) ∧ w.cell? ⟨p, 7, none⟩ = some (.int .u64 (v 7)) ∧ w.cell? ⟨p, 8, none⟩ = some (.int .u64 (v 8)) :=
  ⟨cell_of_block h (lit9_get v 0 (by omega)), cell_of_block h (lit9_get v 1 (by omega)), cell_of_block h (lit9_get v 2 (by omega)), cell_of_block h (lit9_get v 3 (by omega)), cell_of_block h (lit9_get v 4 (by omega)), cell_of_block h (lit9_get v 5 (by omega)), cell_of_block h (lit9_get v 6 (by omega)), cell_of_block h (lit9_get v 7 (by omega)), cell_of_block h (lit9_get v 8 (by omega))⟩
theorem heap_set9 {w : World} {p : Nat} {t : TypeId} {f : Nat × Nat} {o : Nat → Int} (x : Nat → Int) (hp : w.heap[p]? = some (.cells (lit9 o) t f)) :
    (((((((((w.setCell ⟨p, 0, none⟩ (.int .u64 (x 0))).setCell ⟨p, 1, none⟩ (.int .u64 (x 1))).setCell ⟨p, 2, none⟩ (.int .u64 (x 2))).setCell ⟨p, 3, none⟩ (.int .u64 (x 3))).setCell ⟨p, 4, none⟩ (.int .u64 (x 4))).setCell ⟨p, 5, none⟩ (.int .u64 (x 5))).setCell ⟨p, 6, none⟩ (.int .u64 (x 6))).setCell ⟨p, 7, none⟩ (.int .u64 (x 7))).setCell ⟨p, 8, none⟩ (.int .u64 (x 8))).heap[p]? = some (.cells (lit9 x) t f) := by
  have h0 := heap_set_same (k := 0) hp (.int .u64 (x 0))
  have h1 := heap_set_same (k := 1) h0 (.int .u64 (x 1))
  have h2 := heap_set_same (k := 2) h1 (.int .u64 (x 2))
  have h3 := heap_set_same (k := 3) h2 (.int .u64 (x 3))
  have h4 := heap_set_same (k := 4) h3 (.int .u64 (x 4))
  have h5 := heap_set_same (k := 5) h4 (.int .u64 (x 5))
  have h6 := heap_set_same (k := 6) h5 (.int .u64 (x 6))
  have h7 := heap_set_same (k := 7) h6 (.int .u64 (x 7))
  have h8 := heap_set_same (k := 8) h7 (.int .u64 (x 8))
  rw [h8]
  simp [lit9]
theorem below_set9 {n₀ : Nat} {a w : World} {p : Nat} (x : Nat → Int) (h : Below n₀ a w) (hp : n₀ ≤ p) : Below n₀ a (((((((((w.setCell ⟨p, 0, none⟩ (.int .u64 (x 0))).setCell ⟨p, 1, none⟩ (.int .u64 (x 1))).setCell ⟨p, 2, none⟩ (.int .u64 (x 2))).setCell ⟨p, 3, none⟩ (.int .u64 (x 3))).setCell ⟨p, 4, none⟩ (.int .u64 (x 4))).setCell ⟨p, 5, none⟩ (.int .u64 (x 5))).setCell ⟨p, 6, none⟩ (.int .u64 (x 6))).setCell ⟨p, 7, none⟩ (.int .u64 (x 7))).setCell ⟨p, 8, none⟩ (.int .u64 (x 8))) :=
  (Below.setCell (Below.setCell (Below.setCell (Below.setCell (Below.setCell (Below.setCell (Below.setCell (Below.setCell (Below.setCell h hp _) hp _) hp _) hp _) hp _) hp _) hp _) hp _) hp _)
theorem heap_set9_other {w : World} {p b : Nat} {ob : Obj} (x : Nat → Int) (h : w.heap[b]? = some ob) (hne : p ≠ b) : (((((((((w.setCell ⟨p, 0, none⟩ (.int .u64 (x 0))).setCell ⟨p, 1, none⟩ (.int .u64 (x 1))).setCell ⟨p, 2, none⟩ (.int .u64 (x 2))).setCell ⟨p, 3, none⟩ (.int .u64 (x 3))).setCell ⟨p, 4, none⟩ (.int .u64 (x 4))).setCell ⟨p, 5, none⟩ (.int .u64 (x 5))).setCell ⟨p, 6, none⟩ (.int .u64 (x 6))).setCell ⟨p, 7, none⟩ (.int .u64 (x 7))).setCell ⟨p, 8, none⟩ (.int .u64 (x 8))).heap[b]? = some ob :=
  (heap_set_other (heap_set_other (heap_set_other (heap_set_other (heap_set_other (heap_set_other (heap_set_other (heap_set_other (heap_set_other h hne _) hne _) hne _) hne _) hne _) hne _) hne _) hne _) hne _)

def vecV (v : Nat → Int) : Value := .agg (lit9 v)

/-- Is it a vector? -/
def sitesOk (v : Nat → Int) : Bool := (List.range 9).all fun k => k == 0 || decide (v k ≤ MaxT)
theorem sitesOk_iff (v : Nat → Int) : sitesOk v = true ↔ ∀ k, 1 ≤ k → k < 9 → v k ≤ MaxT := by
  unfold sitesOk
  rw [List.all_eq_true]
  constructor
  · intro h k h1 h9
    have := h k (List.mem_range.2 h9)
    simp at this
    omega
  · intro h k hk
    have h9 := List.mem_range.1 hk
    by_cases h0 : k = 0
    · simp [h0]
    · have := h k (by omega) h9
      simp [this]
def vecOk (v : Nat → Int) : Bool := decide (v 0 = 0) && sitesOk v

/-- What is told of the sites, from 1 on. -/
def siteArgs (v : Nat → Int) (k : Fin 8) : Array Value := #[.int .i64 (((k.1 + 1 : Nat)) : Int), .int .u64 (v (k.1 + 1))]

theorem info22 : (Try.prog.info? 22).map (fun i => (i.zero, i.size, i.bytes)) = some (some (.int .u64 0), 1, 8) := by kernel_rfl

theorem run_index9 (v : Nat → Int) (k : Nat) (h : k < 9) (w : World) : (Instr.index 24 (.agg (lit9 v)) (.int .i64 (k : Int))).run Try.prog w = .ok (.int .u64 (v k)) w := by
  obtain ⟨i0, hi, _, hz1, _⟩ := info_parts info22
  exact run_index_int w 24 22 9 .u64 i0 Try.underlying24 Try.underlying22 hi hz1 _ k _ h (lit9_get v k h)

set_option maxRecDepth 100000 in
set_option maxHeartbeats 2000000 in
theorem sites1_in (n : Nat) (hn : 1 ≤ n) (l Bs Bh : Nat) (bs : List Nat) (v : Nat → Int) (J Jx : List (Fin 8) → World → Prop)
    (hY : ∀ pre x W, J pre W → pre.length < 8 → YieldAt Fence.wide (n - 1) Try.prog l (siteArgs v x) W fun e W' =>
      (e = .returned (.bool true) ∧ J (pre ++ [x]) W' ∧ KeepsAt bs W W') ∨ (e = .returned (.bool false) ∧ Jx (pre ++ [x]) W'))
    (W : World) (hc : W.cell? ⟨Bs, 0, none⟩ = some (.pointer (some ⟨Bh, 0, none⟩))) (hh : ∀ k, k < 9 → W.cell? ⟨Bh, k, none⟩ = some (.int .u64 (v k))) (h0 : J [] W) :
    CallsIn Fence.wide n Try.prog 49 #[.func (.yield l) #[] #[], .pointer (some ⟨Bs, 0, none⟩)] W fun e W' => (∃ v, e = .returned v) ∧
      ((∃ ys, ys = List.finRange 8 ∧ J ys W') ∨ (∃ pre, pre <+: List.finRange 8 ∧ Jx pre W')) := by
  have c0 := hh 0 (by omega)
  have c1 := hh 1 (by omega)
  have c2 := hh 2 (by omega)
  have c3 := hh 3 (by omega)
  have c4 := hh 4 (by omega)
  have c5 := hh 5 (by omega)
  have c6 := hh 6 (by omega)
  have c7 := hh 7 (by omega)
  have c8 := hh 8 (by omega)
  have HY := Lib.hid hY
  clear hh hY
  refine callsIn_of_wp Try.func49 rfl trivial ?_ rfl
  simp only [Try.ntmps49, List.size_toArray, List.length_cons, List.length_nil, Nat.reduceAdd, Nat.reduceSub, Array.replicate_succ, Array.replicate_zero, List.push_toArray, List.append_toArray, List.nil_append, List.cons_append]
  gi_wp2
  apply wpIn_scope
  gi_wp2
  apply wpIn_label
  gi_wp2
  have hidx := run_index9 v
  gi_loopw [9] (fun i wr => ∃ k : Nat, k ≤ 9 ∧ i = .int .i64 k ∧ J (firsts 8 (k - 1)) wr) (fun i _ => 9 - (intOf i).toNat)
  case atStart => exact ⟨0, by omega, rfl, h0⟩
  case round =>
    obtain ⟨k, hk, rfl, hJs⟩ := hrel
    by_cases hlt : k < 9
    · have hix := hidx k hlt
      unfold lit9 at hix
      by_cases h0k : 0 < k
      · have e : k - 1 + 1 = k := by omega
        obtain ⟨fn, tmps, assign, body, hy, hR⟩ := HY.out _ (⟨k - 1, by omega⟩ : Fin 8) wr hJs (by rw [firsts_length (by omega)]; omega)
        unfold siteArgs at hy
        dsimp only at hy
        rw [e] at hy
        have hs := firsts_succ (N := 8) (k := k - 1) (by omega)
        rw [e] at hs
        rw [hs] at hR
        clear hs e
        gi_wp2
        refine hR.mono ?_
        rintro e W3 (⟨rfl, hJ3, hk3⟩ | ⟨rfl, hJx3⟩)
        · gi_wp2
          go_roundw
          case rel => exact ⟨k + 1, by omega, by simp, hJ3⟩
          case measure => simp [intOf]; omega
        · gi_wp2
          rw [Exit.noGoto_normal]
          go_end0
          exact ⟨⟨_, rfl⟩, .inr ⟨_, firsts_prefix _ _, hJx3⟩⟩
      · obtain rfl : k = 0 := by omega
        have hix0 : ∀ w, (Instr.index 24 (.agg (lit9 v)) (.int .i64 0)).run Try.prog w = .ok (.int .u64 (v 0)) w := fun w => run_index9 v 0 (by omega) w
        unfold lit9 at hix0
        gi_wp2
        go_roundw
        case rel => exact ⟨1, by omega, by simp, hJs⟩
        case measure => simp [intOf]
    · obtain rfl : k = 9 := by omega
      gi_wp2
      rw [Exit.noGoto_normal]
      go_end0
      exact ⟨⟨_, rfl⟩, .inl ⟨_, firsts_all 8, hJs⟩⟩

theorem sites_any (p : Option Addr) (w : World) :
    Calls Try.prog 40 #[.pointer p] w fun e w' => e = .returned (.func (.func 49) #[] #[.pointer (some ⟨w.heap.size, 0, none⟩)]) ∧ w.alloc (.cells #[.pointer p] 65) = w' := by
  go_enter Try.func40, Try.ntmps40
  go_wp2
  go_ret
  exact ⟨rfl, rfl⟩

theorem sites_iter (Bs Bh : Nat) (v : Nat → Int) (w : World) (hBs : Bs < w.heap.size) (hBh : Bh < w.heap.size) (hc : w.cell? ⟨Bs, 0, none⟩ = some (.pointer (some ⟨Bh, 0, none⟩))) (hh : ∀ k, k < 9 → w.cell? ⟨Bh, k, none⟩ = some (.int .u64 (v k))) :
    Iter Try.prog 49 #[.pointer (some ⟨Bs, 0, none⟩)] 8 (siteArgs v) [Bs, Bh] w := by
  intro n hn1 l J Jx W hW _ _ hY h0
  exact sites1_in n hn1 l Bs Bh _ v J Jx hY W ((hW.cell (p := ⟨Bs, 0, none⟩) hBs).trans hc) (fun k hk => (hW.cell (p := ⟨Bh, k, none⟩) hBh).trans (hh k hk)) h0
end Go.Proofs.Ytppaheekpmgifaa
