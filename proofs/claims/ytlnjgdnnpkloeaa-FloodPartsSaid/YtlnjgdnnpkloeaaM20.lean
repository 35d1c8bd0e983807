/- Merged texts: Fie DocP LawD. -/
import Derived.Test.YtlnjgdnnpkloeaaM9
import Derived.Test.YtlnjgdnnpkloeaaM4
import Derived.Test.YtlnjgdnnpkloeaaM18
import Derived.Test.YtlnjgdnnpkloeaaM19
/- Layer 8: fields of numbers in memory; waves, plain. -/
namespace Go.Proofs.Ytlnjgdnnpkloeaa
set_option linter.unusedSimpArgs false
set_option linter.unusedVariables false
open Go.RowKit Go.Shelf

def fldA (m : Nat → Nat) : Array Value := (mvL m).toArray
abbrev fldO (m : Nat → Nat) : Obj := Obj.cells (fldA m) 57 (0, 0)
theorem fldA_size (m : Nat → Nat) : (fldA m).size = 1024 := by simp [fldA, mvL_len]
theorem fldA_get (m : Nat → Nat) {i : Nat} (h : i < 1024) : (fldA m)[i]? = some (.int .i64 (m i)) := by
  unfold fldA
  rw [List.getElem?_toArray, mvL_get _ h]
theorem fldA_set (m : Nat → Nat) (k u : Nat) : (fldA m).setIfInBounds k (.int .i64 u) = fldA fun i => if i = k then u else m i := by
  unfold fldA
  rw [List.setIfInBounds_toArray, mvL_set]
theorem fldA_one (m : Nat → Nat) : (fldA m).all (·.oneCell') = true := by
  unfold fldA mvL
  simp [Value.oneCell']
/-- A field that is written. -/
theorem St.putFld {w0 x : World} {p : Nat} {m : Nat → Nat} {pre post : List It} (h : St w0 (pre ++ .blk p (fldO m) :: post) x) (hpre : ∀ i ∈ pre, ∃ b ob, i = .blk b ob) (k u : Nat) :
    St w0 (pre ++ .blk p (fldO fun i => if i = k then u else m i) :: post) (x.setCell ⟨p, k, none⟩ (.int .i64 u)) := h.putAt hpre k _ (fldA_set m k u)

/-! ### Waves -/
/-- In the middle of a wave: the first k places are gone over, and those behind L0 are the next wave. -/
structure Wav (N : PtT → Bool) (W H : Int) (p : PtT) (k n : Nat) (next : List PtT) (s : Bf) : Prop where
  bk : BfK N W H (fun _ => 0) p k s
  nl : n ≤ s.l.length
  kn : k ≤ n
  nx : s.l.drop n = next
theorem Wav.start {N : PtT → Bool} {W H : Int} {p : PtT} (hp : onB W H p = true) (hn : N p = true) : Wav N W H p 0 1 [] ((Bf.mk (fun _ => 0) []).meet p 0) :=
  ⟨BfK.start hp hn rfl, by simp [Bf.meet], by omega, by simp [Bf.meet]⟩
/-- The next wave. -/
theorem Wav.turn {N : PtT → Bool} {W H : Int} {p : PtT} {k n : Nat} {next : List PtT} {s : Bf} (h : Wav N W H p k n next s) (hk : k = n) : Wav N W H p k (n + next.length) [] s ∧ s.l.drop k = next := by
  subst hk
  have hl : k + next.length = s.l.length := by rw [← h.nx, List.length_drop]; have := h.nl; omega
  exact ⟨⟨h.bk, by omega, by omega, by rw [List.drop_eq_nil_iff]; omega⟩, h.nx⟩
theorem look_next {N : PtT → Bool} {W H : Int} {n : Nat} {s : Bf} {q a : PtT} (hn : n ≤ s.l.length) :
    n ≤ (s.look N W H q a).l.length ∧ (s.look N W H q a).l.drop n = s.l.drop n ++ (if (onB W H a && N a && decide (s.m (ixP a) = 0)) = true then [a] else []) ∧
      (s.look N W H q a).m = (if (onB W H a && N a && decide (s.m (ixP a) = 0)) = true then (fun i => if i = ixP a then s.m (ixP q) + 1 else s.m i) else s.m) := by
  unfold Bf.look Bf.meet
  by_cases h1 : (onB W H a && N a) = true
  · rw [if_pos h1, h1, Bool.true_and]
    by_cases h2 : s.m (ixP a) = 0
    · rw [if_pos h2, decide_eq_true h2, if_pos rfl, if_pos rfl]
      refine ⟨by simp; omega, ?_, rfl⟩
      simp only
      rw [List.drop_append_of_le_length hn]
    · rw [if_neg h2, decide_eq_false h2, if_neg (by simp), if_neg (by simp)]
      exact ⟨hn, by simp, rfl⟩
  · rw [if_neg h1]
    have h3 : (onB W H a && N a) = false := by simpa using h1
    rw [h3, Bool.false_and, if_neg (by simp), if_neg (by simp)]
    exact ⟨hn, by simp, rfl⟩
end Go.Proofs.Ytlnjgdnnpkloeaa

/- Layer 8: the document's Parts. -/
namespace Go.Proofs.Ytlnjgdnnpkloeaa
set_option linter.unusedSimpArgs false
set_option linter.unusedVariables false
open Go.RowKit Go.Shelf
attribute [local go_sem] Oper.semAt_some

/-- What the document's Grown gives (proved in another text). -/
def GrownGives : Prop := ∀ (C : CanT), okCan C → ∀ (v : Value) (p : PtT) (t : Int) (mb : Nat → Nat), onB (8 * (C.wide : Int)) (8 * (C.high : Int)) p = true → mb (ixP p) = 0 → 0 ≤ t → ∀ (w : World), CanV w C v →
    Calls Try.prog 22 #[v, p.val, .int .i64 t, .agg (fldA mb)] w (Gives (.agg (fldA (runB (pastB (fun q => nearB (colP C p) (colP C q) t) mb) (8 * (C.wide : Int)) (8 * (C.high : Int)) (fun _ => 0) p).m)) w)
theorem runB_le {N : PtT → Bool} {W H : Int} {p : PtT} (hW : W ≤ 32) (hH : H ≤ 32) (hp : onB W H p = true) (hn : N p = true) (i : Nat) : (runB N W H (fun _ => 0) p).m i ≤ 1025 := by
  have h := runB_inv (N := N) hW hH hp hn (m0 := fun _ => 0) rfl
  by_cases hq : ∃ q ∈ (runB N W H (fun _ => 0) p).l, ixP q = i
  · obtain ⟨q, hq, rfl⟩ := hq
    obtain ⟨j, hj⟩ := List.mem_iff_getElem?.1 hq
    have h1 := (h.val j q hj).2
    have h2 := h.len hW hH
    have h3 := (List.getElem?_eq_some_iff.1 hj).1
    omega
  · rw [h.out i fun q hq' e => hq ⟨q, hq', e⟩]
    omega
/-- What is added to a field, place by place. -/
def addF (m g : Nat → Nat) (W v u i : Nat) : Nat := if (i / 32 < v ∨ (i / 32 = v ∧ i % 32 < u)) ∧ i % 32 < W then m i + g i else m i
theorem addF_start (m g : Nat → Nat) (W : Nat) : addF m g W 0 0 = m := by
  funext i
  unfold addF
  rw [if_neg (by omega)]
theorem addF_row (m g : Nat → Nat) (W v : Nat) : addF m g W v W = addF m g W (v + 1) 0 := by
  funext i
  unfold addF
  by_cases h : (i / 32 < v ∨ (i / 32 = v ∧ i % 32 < W)) ∧ i % 32 < W
  · rw [if_pos h, if_pos (by omega)]
  · rw [if_neg h, if_neg (by omega)]
theorem addF_put (m g : Nat → Nat) {W v u : Nat} (hu : u < W) (hW : W ≤ 32) : (fun i => if i = v * 32 + u then m (v * 32 + u) + g (v * 32 + u) else addF m g W v u i) = addF m g W v (u + 1) := by
  funext i
  unfold addF
  by_cases h : i = v * 32 + u
  · rw [if_pos h, if_pos (by omega), h]
  · rw [if_neg h]
    by_cases h2 : (i / 32 < v ∨ (i / 32 = v ∧ i % 32 < u)) ∧ i % 32 < W
    · rw [if_pos h2, if_pos (by omega)]
    · rw [if_neg h2, if_neg (by omega)]
theorem addF_at (m g : Nat → Nat) (W v u : Nat) (hu : u < 32) : addF m g W v u (v * 32 + u) = m (v * 32 + u) := by
  unfold addF
  rw [if_neg (by omega)]
theorem addF_end {m g : Nat → Nat} {W H : Nat} (h : ∀ i, g i ≠ 0 → i / 32 < H ∧ i % 32 < W) : addF m g W H 0 = fun i => m i + g i := by
  funext i
  unfold addF
  by_cases h2 : (i / 32 < H ∨ (i / 32 = H ∧ i % 32 < 0)) ∧ i % 32 < W
  · rw [if_pos h2]
  · rw [if_neg h2]
    by_cases hg : g i = 0
    · rw [hg]; rfl
    · have := h i hg
      omega
theorem runB_off {N : PtT → Bool} {W H : Nat} {p : PtT} (hW : W ≤ 32) (hH : H ≤ 32) (hp : onB W H p = true) (hn : N p = true) (i : Nat) (hi : (runB N W H (fun _ => 0) p).m i ≠ 0) : i / 32 < H ∧ i % 32 < W := by
  have h := runB_inv (N := N) (by omega) (by omega) hp hn (m0 := fun _ => 0) rfl
  obtain ⟨q, hq, rfl⟩ := (h.gone (by omega)).on i hi rfl
  have := onB_iff.1 hq
  obtain ⟨x, y⟩ := q
  unfold ixP
  simp only at this ⊢
  omega
theorem partM_add {C : CanT} (t : Int) (ht : 0 ≤ t) {m : Nat → Nat} {p : PtT} (h0 : m (ixP p) = 0) : partM C t m p = fun i => m i + (runB (pastB (fun q => nearB (colP C p) (colP C q) t) m) (8 * (C.wide : Int)) (8 * (C.high : Int)) (fun _ => 0) p).m i := by
  unfold partM
  rw [if_pos h0]
  funext i
  exact (runB_past h0).m i
theorem partsM_le {C : CanT} (hC : okCan C) {t : Int} (ht : 0 ≤ t) : ∀ k, k ≤ 8 * C.high * (8 * C.wide) → ∀ i, partsM C t k i ≤ 1025
  | 0, _, i => by show 0 ≤ 1025; omega
  | k + 1, hk, i => by
    have ih := partsM_le hC ht k (by omega) i
    have h1 := hC.wide
    have h2 := hC.high
    show partM C t (partsM C t k) (ptK (8 * C.wide) k) i ≤ 1025
    by_cases h0 : partsM C t k (ixP (ptK (8 * C.wide) k)) = 0
    · have hon : onB (8 * (C.wide : Int)) (8 * (C.high : Int)) (ptK (8 * C.wide) k) = true := by
        have ha : k % (8 * C.wide) < 8 * C.wide := Nat.mod_lt _ (by omega)
        have hb : k / (8 * C.wide) < 8 * C.high := Nat.div_lt_of_lt_mul (by rw [Nat.mul_comm]; omega)
        refine onB_iff.2 ?_
        unfold ptK
        simp only
        obtain ⟨a, ha'⟩ : ∃ a, k % (8 * C.wide) = a := ⟨_, rfl⟩
        obtain ⟨b, hb'⟩ : ∃ b, k / (8 * C.wide) = b := ⟨_, rfl⟩
        rw [ha'] at ha ⊢
        rw [hb'] at hb ⊢
        omega
      have hnp : pastB (fun q => nearB (colP C (ptK (8 * C.wide) k)) (colP C q) t) (partsM C t k) (ptK (8 * C.wide) k) = true := by
        unfold pastB
        simp only
        rw [h0]
        have := nearP_self C (ptK (8 * C.wide) k) ht
        unfold nearP at this
        rw [this]
        rfl
      rw [partM_add t ht h0]
      have h3 := runB_le (by omega) (by omega) hon hnp i
      have h4 := (runB_past (N := fun q => nearB (colP C (ptK (8 * C.wide) k)) (colP C q) t) (W := 8 * (C.wide : Int)) (H := 8 * (C.high : Int)) h0).off i
      simp only
      omega
    · unfold partM
      rw [if_neg h0]
      exact ih

theorem ix_lt {i j W H : Nat} (hi : i < W) (hj : j < H) (hW : W ≤ 32) (hH : H ≤ 32) : j * 32 + i < 1024 ∧ i < 32 ∧ j < 32 := by omega
theorem wrap_succ {n : Nat} (h : n ≤ 100000) : wrap64 ((n : Int) + 1) = ((n + 1 : Nat) : Int) := by unfold wrap64; omega
theorem wrap_add {n m : Nat} (h : n ≤ 100000) (h2 : m ≤ 100000) : wrap64 ((n : Int) + (m : Int)) = ((n + m : Nat) : Int) := by unfold wrap64; omega

set_option maxRecDepth 100000 in
set_option maxHeartbeats 4000000 in
theorem refParts_any (hgr : GrownGives) (C : CanT) (hC : okCan C) (v : Value) (t : Int) (ht : 0 ≤ t) (w : World) (hv : CanV w C v) :
    Calls Try.prog 13 #[v, .int .i64 t] w (Gives (.int .i64 (partsN C t)) w) := by
  have HGR := Lib.hid (fun p mb hp h0 w' h => hgr C hC v p t mb hp h0 ht w' h)
  have HZ := Lib.hid (fun w' h => refSizes_any C hC v w' h)
  have HOC := Lib.hid hC
  have HV := Lib.hid hv
  have HT := Lib.hid ht
  obtain ⟨a, cap, rfl, -, -⟩ := id hv
  obtain ⟨wi, hwi⟩ : ∃ wi, C.wide = wi := ⟨_, rfl⟩
  obtain ⟨hi, hhi⟩ : ∃ hi, C.high = hi := ⟨_, rfl⟩
  obtain ⟨W, hW⟩ : ∃ W, 8 * wi = W := ⟨_, rfl⟩
  obtain ⟨H, hH⟩ : ∃ H, 8 * hi = H := ⟨_, rfl⟩
  have HWH := Lib.hid (show 0 < W ∧ W ≤ 32 ∧ H ≤ 32 ∧ 8 * C.wide = W ∧ 8 * C.high = H by have h1 := hC.wide; have h2 := hC.high; rw [hwi, hhi, hW, hH]; omega)
  have HWI := Lib.hid (show 8 * (C.wide : Int) = (W : Int) ∧ 8 * (C.high : Int) = (H : Int) by rw [hwi, hhi]; omega)
  rw [HWI.out.1, HWI.out.2] at HZ
  have HS := Lib.hid (St.start w)
  rw [hwi, hhi]
  rw [hwi, hhi] at HV HZ HGR
  clear hgr hC hv ht hW hH
  go_enter Try.func13, Try.ntmps13
  repeat ((fail_if_success (with_reducible refine stop_at (id := 1) ?_)); (first | go_values | go_skip | go_guarded | go_step | go_upon | go_back | (simp only [Int.not_lt, Int.not_le] at *; go_simp) | (go_values <;> (try go_simp)) | (go_ite <;> go_prune <;> (try go_simp)) | (split <;> (first | (rename_i hx; exact (hx _ rfl).elim) | go_prune))))
  have hs_ := (HS.out.alloc (.cells #[.int .i64 wi, .int .i64 hi, .slice a C.tiles.length cap] 24))
  obtain ⟨w1, hw_⟩ : ∃ w1 : World, (w.alloc (.cells #[.int .i64 wi, .int .i64 hi, .slice a C.tiles.length cap] 24)) = w1 := ⟨_, rfl⟩
  rw [hw_] at hs_
  try simp only [World.size_alloc] at hs_
  have HS := Lib.hid hs_
  rw [hw_]
  clear hw_ hs_
  have v0 := cell_of_block (k := 0) (HS.out.blockAt 0 rfl) rfl
  have v1 := cell_of_block (k := 1) (HS.out.blockAt 0 rfl) rfl
  have v2 := cell_of_block (k := 2) (HS.out.blockAt 0 rfl) rfl
  go_wp2_with fail
  refine (HZ.out _ (HV.out.below HS.out.low)).mono ?_
  rintro e w2 ⟨rfl, hb_⟩
  have HS := Lib.hid (HS.out.below hb_)
  clear hb_
  clear v0 v1 v2
  repeat ((fail_if_success (with_reducible refine stop_at (id := 3) ?_)); (first | go_values | go_skip | go_guarded | go_step | go_upon | go_back | (simp only [Int.not_lt, Int.not_le] at *; go_simp) | (go_values <;> (try go_simp)) | (go_ite <;> go_prune <;> (try go_simp)) | (split <;> (first | (rename_i hx; exact (hx _ rfl).elim) | go_prune))))
  have hz : Try.zeroCells57 = fldA fun _ => 0 := by kernel_rfl
  rw [hz]
  clear hz
  obtain ⟨F, hF⟩ : ∃ F, w2.heap.size = F := ⟨_, rfl⟩
  have hs_ := (HS.out.alloc (.cells (fldA fun _ => 0) 57))
  obtain ⟨w3, hw_⟩ : ∃ w3 : World, (w2.alloc (.cells (fldA fun _ => 0) 57)) = w3 := ⟨_, rfl⟩
  rw [hw_] at hs_
  try simp only [World.size_alloc] at hs_
  have HS := Lib.hid hs_
  rw [hw_]
  clear hw_ hs_
  simp only [hF] at HS ⊢
  have HF := Lib.hid (show w.heap.size < F by have h := HS.out.ord; simp [ItOrd, It.top] at h; omega)
  clear hF
  go_wp2_with fail
  have hst : St w [.blk F (fldO (partsM C t 0)), .blk w.heap.size (.cells #[.int .i64 wi, .int .i64 hi, .slice a C.tiles.length cap] 24 (0, 0))] w3 := HS.out
  have HST := Lib.hid hst
  clear HS hst
  go_loopw [8, 20] (fun n y wr => ∃ j : Nat, j ≤ H ∧ y = .int .i64 (j : Int) ∧ n = .int .i64 ((gathL W (partsI C t) (j * W)).length : Int) ∧ St w [.blk F (fldO (partsM C t (j * W))), .blk w.heap.size (.cells #[.int .i64 wi, .int .i64 hi, .slice a C.tiles.length cap] 24 (0, 0))] wr) (fun _ y _ => H - (intOf y).toNat)
  case atStart => exact ⟨0, by omega, rfl, by rw [Nat.zero_mul]; rfl, by rw [Nat.zero_mul]; exact HST.out⟩
  case round =>
    obtain ⟨j, hj, rfl, rfl, hs⟩ := hrel
    have HS := Lib.hid hs
    clear hs HST
    by_cases hlt : j < H
    · have HJ := Lib.hid hlt
      have e1 : wrap64 ((j : Int) + 1) = ((j + 1 : Nat) : Int) := wrap_succ (by have := HWH.out.2.2.1; omega)
      have HE1 := Lib.hid e1
      clear e1
      repeat ((fail_if_success (with_reducible refine stop_at (id := 8) ?_)); (first | go_values | go_skip | go_guarded | go_step | go_upon | go_back | (simp only [Int.not_lt, Int.not_le] at *; go_simp) | (go_values <;> (try go_simp)) | (go_ite <;> go_prune <;> (try go_simp)) | (split <;> (first | (rename_i hx; exact (hx _ rfl).elim) | go_prune))))
      clear hlt
      go_loopw [8, 24] (fun n x wr => ∃ i : Nat, i ≤ W ∧ x = .int .i64 (i : Int) ∧ n = .int .i64 ((gathL W (partsI C t) (j * W + i)).length : Int) ∧ St w [.blk F (fldO (partsM C t (j * W + i))), .blk w.heap.size (.cells #[.int .i64 wi, .int .i64 hi, .slice a C.tiles.length cap] 24 (0, 0))] wr) (fun _ x _ => W - (intOf x).toNat)
      case atStart => exact ⟨0, by omega, rfl, rfl, HS.out⟩
      case round =>
        obtain ⟨i, hi2, rfl, rfl, hs⟩ := hrel
        have HS := Lib.hid hs
        clear hs
        by_cases hlt : i < W
        · obtain ⟨k, hk⟩ : ∃ k, j * W + i = k := ⟨_, rfl⟩
          have hpt : ptK W k = ⟨(i : Int), (j : Int)⟩ := by rw [← hk]; exact ptK_at hlt
          have hix : ixP ⟨(i : Int), (j : Int)⟩ = j * 32 + i := by unfold ixP; simp only; omega
          have hk1 : j * W + (i + 1) = k + 1 := by omega
          have hkb : k < H * W := by
            have h1 : (j + 1) * W ≤ H * W := Nat.mul_le_mul_right _ HJ.out
            rw [Nat.succ_mul] at h1
            omega
          have hHW : H * W ≤ 1024 := Nat.mul_le_mul HWH.out.2.2.1 HWH.out.2.1
          have hcl := gathL_len W (partsI C t) k
          have hcs := gathL_succ W (partsI C t) k
          have hms : partsM C t (k + 1) = partM C t (partsM C t k) ⟨(i : Int), (j : Int)⟩ := by rw [← hpt]; show partM C t (partsM C t k) (ptK (8 * C.wide) k) = _; rw [HWH.out.2.2.2.1]
          have hpi : partsI C t k = decide (partsM C t k (j * 32 + i) = 0) := by unfold partsI; rw [HWH.out.2.2.2.1, hpt, hix]
          obtain ⟨cn, hcn⟩ : ∃ cn, (gathL W (partsI C t) k).length = cn := ⟨_, rfl⟩
          obtain ⟨m, hm⟩ : ∃ m, partsM C t k = m := ⟨_, rfl⟩
          obtain ⟨mv, hmv⟩ : ∃ mv, m (j * 32 + i) = mv := ⟨_, rfl⟩
          have hmle : ∀ x, m x ≤ 1025 := fun x => by rw [← hm]; exact partsM_le HOC.out HT.out k (by rw [HWH.out.2.2.2.2, HWH.out.2.2.2.1]; exact Nat.le_of_lt hkb) x
          rw [hm] at hms hpi
          rw [hmv] at hpi
          rw [hcn] at hcl
          have HK := Lib.hid hk1
          have HI := Lib.hid hlt
          have HM := Lib.hid (And.intro hms (And.intro hpi (And.intro hmv hmle)))
          have HCS := Lib.hid hcs
          have HCN := Lib.hid hcn
          have HIX := Lib.hid hix
          have e3 : wrap64 ((i : Int) + 1) = ((i + 1 : Nat) : Int) := wrap_succ (by have := HWH.out.2.1; omega)
          have e4 : wrap64 ((cn : Int) + 1) = ((cn + 1 : Nat) : Int) := wrap_succ (by omega)
          have HE3 := Lib.hid (And.intro e3 e4)
          obtain ⟨hI, x1, x2⟩ := ix_lt hlt HJ.out HWH.out.2.1 HWH.out.2.2.1
          have HII := Lib.hid hI
          rw [hk, hm] at HS
          rw [hk, hcn]
          clear hpt hix hk1 hkb hHW hcl hcs hms hpi hmv hmle hm hcn e3 e4 hlt hi2
          have c1 := cell_of_block (HS.out.blockAt 0 rfl) (fldA_get m hI)
          rw [HM.out.2.2.1] at c1
          clear hI
          cases mv with
          | succ mv =>
            go_wp2_with fail
            clear c1
            go_roundw
            case rel =>
              refine ⟨i + 1, HI.out, congrArg (Value.int .i64) (Int.natCast_succ i).symm, ?_, ?_⟩
              · rw [HK.out, HCS.out, HM.out.2.1]
                simp [HCN.out]
              · rw [HK.out, HM.out.1]
                unfold partM
                rw [HIX.out, HM.out.2.2.1, if_neg (by omega)]
                exact HS.out
            case measure => have := HI.out; simp only [intOf]; omega
          | zero =>
            repeat ((fail_if_success (with_reducible refine stop_at (id := 12) ?_)); (first | go_values | go_skip | go_guarded | go_step | go_upon | go_back | (simp only [Int.not_lt, Int.not_le] at *; go_simp) | (go_values <;> (try go_simp)) | (go_ite <;> go_prune <;> (try go_simp)) | (split <;> (first | (rename_i hx; exact (hx _ rfl).elim) | go_prune))))
            clear c1
            have hon : onB (8 * (wi : Int)) (8 * (hi : Int)) ⟨(i : Int), (j : Int)⟩ = true := onB_iff.2 (by
              have h1 := HWI.out
              have h2 := HJ.out
              have h3 := HI.out
              rw [hwi, hhi] at h1
              simp only
              omega)
            have hm0 : m (ixP ⟨(i : Int), (j : Int)⟩) = 0 := by rw [HIX.out]; exact HM.out.2.2.1
            have hadd := partM_add (C := C) t HT.out hm0
            have hnp : pastB (fun q => nearB (colP C ⟨(i : Int), (j : Int)⟩) (colP C q) t) m ⟨(i : Int), (j : Int)⟩ = true := by
              unfold pastB
              simp only
              rw [hm0]
              have := nearP_self C ⟨(i : Int), (j : Int)⟩ HT.out
              unfold nearP at this
              rw [this]
              rfl
            rw [hwi, hhi] at hadd
            have hgr := HGR.out ⟨(i : Int), (j : Int)⟩ m hon hm0
            obtain ⟨G, hG⟩ : ∃ G, (runB (pastB (fun q => nearB (colP C ⟨(i : Int), (j : Int)⟩) (colP C q) t) m) (8 * (wi : Int)) (8 * (hi : Int)) (fun _ => 0) ⟨(i : Int), (j : Int)⟩).m = G := ⟨_, rfl⟩
            have e5 : 8 * (wi : Int) = (W : Int) ∧ 8 * (hi : Int) = (H : Int) := by rw [← hwi, ← hhi]; exact HWI.out
            have hoff : ∀ x, G x ≠ 0 → x / 32 < H ∧ x % 32 < W := fun x hx => by
              rw [← hG, e5.1, e5.2] at hx
              exact runB_off HWH.out.2.1 HWH.out.2.2.1 (by rw [← e5.1, ← e5.2]; exact hon) hnp x hx
            have hgle : ∀ x, G x ≤ 1025 := fun x => by
              rw [← hG]
              exact runB_le (by rw [e5.1]; have := HWH.out.2.1; omega) (by rw [e5.2]; have := HWH.out.2.2.1; omega) hon hnp x
            rw [hG] at hgr hadd
            have HG := Lib.hid (And.intro hadd (And.intro hoff hgle))
            have HGC := Lib.hid hgr
            have hsz : ∀ m, (Try.prog.info? 57).map (·.size) = some (fldA m).size := fun m => by rw [fldA_size]; kernel_rfl
            have HSZ := Lib.hid hsz
            clear hon hm0 hadd hnp hG hgr e5 hoff hgle hsz
            have v0 := cell_of_block (k := 0) (HS.out.blockAt 1 rfl) rfl
            have v1 := cell_of_block (k := 1) (HS.out.blockAt 1 rfl) rfl
            have v2 := cell_of_block (k := 2) (HS.out.blockAt 1 rfl) rfl
            refine (wpIn_wide (n := 0)).1 ?_
            gi_wp2_with fail
            refine opIn_load 57 _ rfl F rfl 57 (fldA m) (0, 0) _ (HS.out.blockAt 0 rfl) Try.underlying57 rfl (HSZ.out _) ?_
            simp only [Act.put, List.setIfInBounds_toArray, List.set_cons_succ, List.set_cons_zero]
            clear v0 v1 v2
            gi_wp2_with fail
            refine (callsIn_wide.2 (HGC.out _ (HV.out.below HS.out.low))).mono ?_
            rintro e w5 ⟨rfl, hb_⟩
            have HS := Lib.hid (HS.out.below hb_)
            clear hb_
            simp only []
            go_at_K
            gi_step
            gi_step
            gi_step
            gi_step
            refine opIn_store 57 _ _ rfl w5.heap.size 57 Try.zeroCells57 (fldA G) rfl rfl (World.alloc_heap_new _ _) (HSZ.out _) (Eq.trans (b := 1024) (by kernel_rfl) (fldA_size G).symm) (fldA_one G) ?_
            simp only [Act.put, List.setIfInBounds_toArray, List.set_cons_succ, List.set_cons_zero]
            have hs5 := HS.out.allocRow Try.zeroCells57 (fldA G) 57
            obtain ⟨w6, hw6⟩ : ∃ w6, (w5.alloc (.cells Try.zeroCells57 57)).setRow w5.heap.size (fldA G) = w6 := ⟨_, rfl⟩
            rw [hw6] at hs5
            rw [hw6]
            have HS := Lib.hid hs5
            clear hs5 hw6
            gi_wp2_with fail
            go_wp2_with fail
            have hst0 : St w [.blk w5.heap.size (fldO G), .blk F (fldO (addF m G W 0 0)), .blk w.heap.size (.cells #[.int .i64 wi, .int .i64 hi, .slice a C.tiles.length cap] 24 (0, 0))] w6 := by rw [addF_start]; exact HS.out
            obtain ⟨B, hB⟩ : ∃ B, w5.heap.size = B := ⟨_, rfl⟩
            rw [hB] at hst0
            simp only [hB]
            have HST := Lib.hid hst0
            clear hst0 hB HS
            go_loopw [43] (fun y wr => ∃ v : Nat, v ≤ H ∧ y = .int .i64 (v : Int) ∧ St w [.blk B (fldO G), .blk F (fldO (addF m G W v 0)), .blk w.heap.size (.cells #[.int .i64 wi, .int .i64 hi, .slice a C.tiles.length cap] 24 (0, 0))] wr) (fun y _ => H - (intOf y).toNat)
            case atStart => exact ⟨0, by omega, rfl, HST.out⟩
            case round =>
              obtain ⟨v, hv, rfl, hs⟩ := hrel
              have HS := Lib.hid hs
              clear hs HST
              by_cases hvl : v < H
              · have HVL := Lib.hid hvl
                have HE6 := Lib.hid (wrap_succ (n := v) (by have := HWH.out.2.2.1; omega))
                repeat ((fail_if_success (with_reducible refine stop_at (id := 17) ?_)); (first | go_values | go_skip | go_guarded | go_step | go_upon | go_back | (simp only [Int.not_lt, Int.not_le] at *; go_simp) | (go_values <;> (try go_simp)) | (go_ite <;> go_prune <;> (try go_simp)) | (split <;> (first | (rename_i hx; exact (hx _ rfl).elim) | go_prune))))
                clear hvl
                go_loopw [47] (fun y wr => ∃ u : Nat, u ≤ W ∧ y = .int .i64 (u : Int) ∧ St w [.blk B (fldO G), .blk F (fldO (addF m G W v u)), .blk w.heap.size (.cells #[.int .i64 wi, .int .i64 hi, .slice a C.tiles.length cap] 24 (0, 0))] wr) (fun y _ => W - (intOf y).toNat)
                case atStart => exact ⟨0, by omega, rfl, HS.out⟩
                case round =>
                  obtain ⟨u, hu, rfl, hs⟩ := hrel
                  have HS := Lib.hid hs
                  clear hs
                  by_cases hul : u < W
                  · have HUL := Lib.hid hul
                    have HE7 := Lib.hid (wrap_succ (n := u) (by have := HWH.out.2.1; omega))
                    obtain ⟨hI2, z1, z2⟩ := ix_lt hul HVL.out HWH.out.2.1 HWH.out.2.2.1
                    have HI2 := Lib.hid hI2
                    have HE8 := Lib.hid (wrap_add (n := m (v * 32 + u)) (m := G (v * 32 + u)) (by have := HM.out.2.2.2 (v * 32 + u); omega) (by have := HG.out.2.2 (v * 32 + u); omega))
                    repeat ((fail_if_success (with_reducible refine stop_at (id := 19) ?_)); (first | go_values | go_skip | go_guarded | go_step | go_upon | go_back | (simp only [Int.not_lt, Int.not_le] at *; go_simp) | (go_values <;> (try go_simp)) | (go_ite <;> go_prune <;> (try go_simp)) | (split <;> (first | (rename_i hx; exact (hx _ rfl).elim) | go_prune))))
                    clear hul hI2
                    refine (wpIn_wide (n := 0)).1 ?_
                    apply wp_region_vals 15 (Rl := [(eqv _), (eqv _), (eqv _), (eqv _), (eqv _), (eqv _), (eqv _), (eqv _), (eqv _), (eqv _), (eqv _), (eqv _), (eqv _), (eqv _), (eqv _)]) (C := (fun x y => Below x.heap.size x y))
                    case hm => kernel_rfl
                    case hk => rfl
                    case hCr => exact (fun _ => Below.refl _ _)
                    case hCt => intro _ _ _; exact (fun h k => grows_trans h k)
                    case hst => exact ⟨fun _ _ _ _ h => h, fun _ _ _ _ h => h, fun _ _ _ _ h => h, fun _ _ _ _ h => h, fun _ _ _ _ h => h, fun _ _ _ _ h => h, fun _ _ _ _ h => h, fun _ _ _ _ h => h, fun _ _ _ _ h => h, fun _ _ _ _ h => h, fun _ _ _ _ h => h, fun _ _ _ _ h => h, fun _ _ _ _ h => h, fun _ _ _ _ h => h, fun _ _ _ _ h => h, trivial⟩
                    case hfo => kernel_rfl
                    case ht => kernel_rfl
                    case hC0 => exact (grows_drew _)
                    case hsteps =>
                      refine ⟨?_, ?_, ?_, ?_, ?_, ?_, ?_, ?_, ?_, ?_, ?_, ?_, ?_, ?_, ?_, trivial⟩
                      · -- 0
                        intro a' w' hA hC hD
                        have s12 : a'.tmps[12]? = some _ := (hA.at 12 (by kernel_rfl)).trans rfl
                        clear hA hD
                        refine stepOk_plain rfl ?_
                        intro K hK
                        gi_wp2
                        exact hK _ _ rfl ((fun _ => Below.refl _ _) _)
                      · -- 1
                        intro a' w' hA hC hD
                        have s13 : a'.tmps[13]? = some _ := (hA.at 13 (by kernel_rfl)).trans rfl
                        clear hA hD
                        refine stepOk_plain rfl ?_
                        intro K hK
                        gi_wp2
                        exact hK _ _ rfl ((fun _ => Below.refl _ _) _)
                      · -- 2
                        intro a' w' hA hC hD
                        have s12 : a'.tmps[12]? = some _ := (hA.at 12 (by kernel_rfl)).trans rfl
                        clear hA hD
                        refine stepOk_plain rfl ?_
                        intro K hK
                        gi_wp2
                        exact hK _ _ rfl ((fun _ => Below.refl _ _) _)
                      · -- 3
                        intro a' w' hA hC hD
                        have s13 : a'.tmps[13]? = some _ := (hA.at 13 (by kernel_rfl)).trans rfl
                        clear hA hD
                        refine stepOk_plain rfl ?_
                        intro K hK
                        gi_wp2
                        exact hK _ _ rfl ((fun _ => Below.refl _ _) _)
                      · -- 4
                        intro a' w' hA hC hD
                        have s7 : a'.tmps[7]? = some _ := (hA.at 7 (by kernel_rfl)).trans rfl
                        obtain ⟨u52, s52, r52⟩ := hD ⟨2, .data⟩ (by simp) rfl _ rfl
                        replace r52 : u52 = _ := r52
                        subst r52
                        clear hA hD
                        refine stepOk_plain rfl ?_
                        intro K hK
                        gi_wp2
                        exact hK _ _ rfl ((fun _ => Below.refl _ _) _)
                      · -- 5
                        intro a' w' hA hC hD
                        obtain ⟨u54, s54, r54⟩ := hD ⟨4, .data⟩ (by simp) rfl _ rfl
                        replace r54 : u54 = _ := r54
                        subst r54
                        obtain ⟨u53, s53, r53⟩ := hD ⟨3, .data⟩ (by simp) rfl _ rfl
                        replace r53 : u53 = _ := r53
                        subst r53
                        clear hA hD
                        refine stepOk_plain rfl ?_
                        intro K hK
                        gi_wp2
                        exact hK _ _ rfl ((fun _ => Below.refl _ _) _)
                      · -- 6
                        intro a' w' hA hC hD
                        obtain ⟨u55, s55, r55⟩ := hD ⟨5, .data⟩ (by simp) rfl _ rfl
                        replace r55 : u55 = _ := r55
                        subst r55
                        have c1 := cell_of_block (HS.out.below hC |>.blockAt 1 rfl) (fldA_get (addF m G W v u) HI2.out); rw [addF_at m G W v u z1] at c1
                        clear hA hD
                        refine stepOk_plain rfl ?_
                        intro K hK
                        gi_wp2
                        exact hK _ _ rfl ((fun _ => Below.refl _ _) _)
                      · -- 7
                        intro a' w' hA hC hD
                        have s12 : a'.tmps[12]? = some _ := (hA.at 12 (by kernel_rfl)).trans rfl
                        clear hA hD
                        refine stepOk_plain rfl ?_
                        intro K hK
                        gi_wp2
                        exact hK _ _ rfl ((fun _ => Below.refl _ _) _)
                      · -- 8
                        intro a' w' hA hC hD
                        have s13 : a'.tmps[13]? = some _ := (hA.at 13 (by kernel_rfl)).trans rfl
                        clear hA hD
                        refine stepOk_plain rfl ?_
                        intro K hK
                        gi_wp2
                        exact hK _ _ rfl ((fun _ => Below.refl _ _) _)
                      · -- 9
                        intro a' w' hA hC hD
                        have s11 : a'.tmps[11]? = some _ := (hA.at 11 (by kernel_rfl)).trans rfl
                        obtain ⟨u57, s57, r57⟩ := hD ⟨7, .data⟩ (by simp) rfl _ rfl
                        replace r57 : u57 = _ := r57
                        subst r57
                        clear hA hD
                        refine stepOk_plain rfl ?_
                        intro K hK
                        gi_wp2
                        exact hK _ _ rfl ((fun _ => Below.refl _ _) _)
                      · -- 10
                        intro a' w' hA hC hD
                        obtain ⟨u59, s59, r59⟩ := hD ⟨9, .data⟩ (by simp) rfl _ rfl
                        replace r59 : u59 = _ := r59
                        subst r59
                        obtain ⟨u58, s58, r58⟩ := hD ⟨8, .data⟩ (by simp) rfl _ rfl
                        replace r58 : u58 = _ := r58
                        subst r58
                        clear hA hD
                        refine stepOk_plain rfl ?_
                        intro K hK
                        gi_wp2
                        exact hK _ _ rfl ((fun _ => Below.refl _ _) _)
                      · -- 11
                        intro a' w' hA hC hD
                        obtain ⟨u60, s60, r60⟩ := hD ⟨10, .data⟩ (by simp) rfl _ rfl
                        replace r60 : u60 = _ := r60
                        subst r60
                        have c1 := cell_of_block (HS.out.below hC |>.blockAt 0 rfl) (fldA_get G HI2.out)
                        clear hA hD
                        refine stepOk_plain rfl ?_
                        intro K hK
                        gi_wp2
                        exact hK _ _ rfl ((fun _ => Below.refl _ _) _)
                      · -- 12
                        intro a' w' hA hC hD
                        obtain ⟨u56, s56, r56⟩ := hD ⟨6, .data⟩ (by simp) rfl _ rfl
                        replace r56 : u56 = _ := r56
                        subst r56
                        obtain ⟨u61, s61, r61⟩ := hD ⟨11, .data⟩ (by simp) rfl _ rfl
                        replace r61 : u61 = _ := r61
                        subst r61
                        clear hA hD
                        refine stepOk_plain rfl ?_
                        intro K hK
                        gi_wp2
                        rw [HE8.out]
                        exact hK _ _ rfl ((fun _ => Below.refl _ _) _)
                      · -- 13
                        intro a' w' hA hC hD
                        have s7 : a'.tmps[7]? = some _ := (hA.at 7 (by kernel_rfl)).trans rfl
                        obtain ⟨u50, s50, r50⟩ := hD ⟨0, .data⟩ (by simp) rfl _ rfl
                        replace r50 : u50 = _ := r50
                        subst r50
                        clear hA hD
                        refine stepOk_plain rfl ?_
                        intro K hK
                        gi_wp2
                        exact hK _ _ rfl ((fun _ => Below.refl _ _) _)
                      · -- 14
                        intro a' w' hA hC hD
                        obtain ⟨u63, s63, r63⟩ := hD ⟨13, .data⟩ (by simp) rfl _ rfl
                        replace r63 : u63 = _ := r63
                        subst r63
                        obtain ⟨u51, s51, r51⟩ := hD ⟨1, .data⟩ (by simp) rfl _ rfl
                        replace r51 : u51 = _ := r51
                        subst r51
                        clear hA hD
                        refine stepOk_plain rfl ?_
                        intro K hK
                        gi_wp2
                        exact hK _ _ rfl ((fun _ => Below.refl _ _) _)
                    case hend =>
                      intro w7 hC
                      simp only [EndFrom, eqv, forall_eq, Act.put, List.length_cons, List.length_nil, List.drop_succ_cons, List.drop_zero, Nat.reduceAdd, List.setIfInBounds_toArray, List.set_cons_succ, List.set_cons_zero]
                      have HS := Lib.hid (HS.out.below hC)
                      have f1 := free_of_block (HS.out.blockAt 1 rfl) (v * 32 + u)
                      have c1 := cell_of_block (HS.out.blockAt 1 rfl) (fldA_get (addF m G W v u) HI2.out)
                      clear hC
                      gi_wp2
                      clear f1 c1
                      have hp := HS.out.putFld (pre := [.blk B (fldO G)]) (by simp) (v * 32 + u) (m (v * 32 + u) + G (v * 32 + u))
                      rw [addF_put m G HUL.out HWH.out.2.1] at hp
                      have HP := Lib.hid hp
                      clear hp
                      go_wp2_with fail
                      go_roundw
                      case rel => exact ⟨u + 1, HUL.out, congrArg (Value.int .i64) (Int.natCast_succ u).symm, HP.out⟩
                      case measure => have := HUL.out; simp only [intOf]; omega
                  · obtain rfl : u = W := by omega
                    clear hul hu
                    have hs2 := HS.out
                    rw [addF_row] at hs2
                    have HS := Lib.hid hs2
                    clear hs2
                    go_wp2_with fail
                    go_roundw
                    case rel => exact ⟨v + 1, HVL.out, congrArg (Value.int .i64) HE6.out, HS.out⟩
                    case measure => rw [HE6.out]; have := HVL.out; simp only [intOf]; omega
              · obtain rfl : v = H := by omega
                clear hvl hv
                have hs2 := HS.out
                rw [addF_end HG.out.2.1, ← HG.out.1, ← HM.out.1] at hs2
                have HS := Lib.hid (hs2.sub (its' := [.blk F (fldO (partsM C t (k + 1))), .blk w.heap.size (.cells #[.int .i64 wi, .int .i64 hi, .slice a C.tiles.length cap] 24 (0, 0))]) (.cons _ (List.Sublist.refl _)))
                clear hs2
                go_wp2_with fail
                refine ⟨⟨i + 1, HI.out, congrArg (Value.int .i64) (Int.natCast_succ i).symm, ?_, ?_⟩, ?_⟩
                · rw [HE3.out.2, HK.out, HCS.out, HM.out.2.1]
                  simp [HCN.out]
                · rw [HK.out]
                  exact HS.out
                · have := HI.out
                  simp only [intOf]
                  omega
        · obtain rfl : i = W := by omega
          go_wp2_with fail
          go_roundw
          case rel => exact ⟨j + 1, HJ.out, congrArg (Value.int .i64) HE1.out, by rw [Nat.succ_mul], by rw [Nat.succ_mul]; exact HS.out⟩
          case measure => rw [HE1.out]; have := HJ.out; simp only [intOf]; omega
    · obtain rfl : j = H := by omega
      go_wp2_with fail
      go_ret
      refine ⟨?_, HS.out.low⟩
      unfold partsN
      rw [HWH.out.2.2.2.1, HWH.out.2.2.2.2]
      rfl
end Go.Proofs.Ytlnjgdnnpkloeaa

/- Layer 8: a canvas of a law, as what it shows; clones of numbers. -/
namespace Go.Proofs.Ytlnjgdnnpkloeaa
set_option linter.unusedSimpArgs false
set_option linter.unusedVariables false
open Go.RowKit Go.Shelf
attribute [local go_sem] Oper.semAt_some
theorem okE_wide {wide high : Int} {n : Nat} (h : okE wide high n = true) : wide = (wide.toNat : Int) ∧ high = (high.toNat : Int) := by
  unfold okE at h
  have h1 := mayB_iff.1 (Bool.and_eq_true_iff.1 h).1
  omega
/-- A canvas, and what it shows, or none. -/
def GivesOfD (ok : Bool) (C : CanT) (w : World) (e : Ending) (w' : World) : Prop :=
  ∃ v wi hi a cap, e = .returned (.tuple #[v, .agg #[.int .i64 wi, .int .i64 hi, .slice a C.tiles.length cap], .bool ok]) ∧ Below w.heap.size w w' ∧ (ok = false → v = .pointer none) ∧
    (ok = true → (∃ p, v = .pointer (some ⟨p, 0, none⟩) ∧ CanAt w' p C) ∧ wi = (C.wide : Int) ∧ hi = (C.high : Int) ∧ CanV w' C (.agg #[.int .i64 C.wide, .int .i64 C.high, .slice a C.tiles.length cap]))
theorem lawOf_doc (wide high : Int) (a : Option Addr) (n cap : Nat) (ts : List TileT) (hl : ts.length = n) (hc : n ≤ cap) (hc2 : cap ≤ 9223372036854775807) (hcol : ∀ t ∈ ts, ∀ c ∈ t.1, okC c) (w : World) (he : Elems w (.slice a n cap) n 256 (rowC encT ts)) :
    Calls Try.prog 9 #[.agg #[.int .i64 wide, .int .i64 high, .slice a n cap]] w (GivesOfD (okE wide high (ts.take 17).length) ⟨wide.toNat, high.toNat, ts.take 17⟩ w) := by
  refine (lawOf_any wide high a n cap ts hl hc hc2 hcol w he).mono fun e w' h => ?_
  obtain ⟨v, y, rfl, hb, ⟨a', c', rfl, h1, h2⟩, h3, h4⟩ := h
  refine ⟨v, wide, high, a', c', rfl, hb, h4, fun hok => ?_⟩
  obtain ⟨e1, e2⟩ := okE_wide hok
  exact ⟨h3 hok, e1, e2, a', c', rfl, h1, h2⟩

theorem lay_cloneI : Go.Proofs.SlLaysE0.n41 Try.prog ⟨fun | 41 => 10 | n => n, fun | 22 => 25 | 23 => 3 | 4 => 4 | n => n, fun | n => n⟩ := {
  mixed := by kernel_rfl
  f41 := ⟨Try.f10.name, by decide, Try.func10.trans (congrArg some (by kernel_rfl))⟩
  t22 := Try.underlying25
  a22 := Try.isAgg25
  z22 := Try.sizeOf25
  v22 := Try.zeroValue25
  t4 := Try.underlying4
  a4 := Try.isAgg4
  z4 := Try.sizeOf4
  v4 := Try.zeroValue4 }
theorem infoInt : (Try.prog.info? 3).map (fun i => (i.zero, i.size, i.bytes)) = some (some (.int .i64 0), 1, 8) := by kernel_rfl
theorem cloneI_any (sv : Value) (l : List Int) (w : World) (h : Elems w sv l.length 1 (rowC encI l)) (hl : l.length ≤ 1000000000) :
    Calls Try.prog 10 #[sv] w (Cloned 3 1 l.length (l.flatMap encI) sv w) := by
  obtain ⟨i0, hi, hz0, hz1, hz2⟩ := info_parts infoInt
  exact cloneRows lay_cloneI i0 _ 1 8 hi hz0 hz1 hz2 rfl (by omega) Try.sizeOf3 encI encI_len encI_one sv l w h hl (by omega)
/-- What a clone is, for those who only read it. -/
theorem Cloned.read {α : Type} {E : TypeId} {k n : Nat} {enc : α → List Value} {L : List α} {sv : Value} {w : World} {e : Ending} {w' : World} (hk : ∀ q, (enc q).length = k) (hn : L.length = n) (h : Cloned E k L.length (L.flatMap enc) sv w e w') : ∃ a cap, e = .returned (.slice a n cap) ∧ n ≤ cap ∧ Elems w' (.slice a n cap) n k (rowC enc L) ∧ Below w.heap.size w w' := by
  obtain ⟨v, rfl, hr, -, hb⟩ := h
  subst hn
  have he := ownsRow_rows hk hr
  rcases hr.2 with ⟨rfl, h0⟩ | ⟨g, cap, cur, rfl, h1, h2, h3, h4⟩
  · exact ⟨none, 0, by rw [h0], by omega, by rw [h0] at he ⊢; exact he, hb⟩
  · exact ⟨_, cap, rfl, h3, he, hb⟩
end Go.Proofs.Ytlnjgdnnpkloeaa
