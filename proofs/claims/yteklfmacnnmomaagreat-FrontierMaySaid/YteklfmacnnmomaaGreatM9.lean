/- Merged texts: LgB. -/
import Derived.Test.YteklfmacnnmomaaGreatM8
import Derived.Test.YteklfmacnnmomaaGreatM3
set_option linter.unusedSimpArgs false
set_option linter.unusedVariables false
/- Layer 14: logs as values; Check. -/
namespace Go.Proofs.YteklfmacnnmomaaGreat
open Go.RowKit Go.Shelf
attribute [local go_sem] Oper.semAt_some
structure LogT where
 folded : Int
 base : Nat → Int
 ops : List OpX
def LogT.cells (l : LogT) (pv : Value) : Array Value :=
 #[.int .u64 l.folded, .int .u64 (l.base 0), .int .u64 (l.base 1), .int .u64 (l.base 2), .int .u64 (l.base 3), .int .u64 (l.base 4), .int .u64 (l.base 5), .int .u64 (l.base 6), .int .u64 (l.base 7), .int .u64 (l.base 8), pv]
theorem logCells {w : World} {b : Nat} {l : LogT} {pv : Value} {t : TypeId} {f : Nat × Nat} (h : w.heap[b]? = some (.cells (l.cells pv) t f)) :
 w.cell? ⟨b, 0, none⟩ = some (.int .u64 l.folded) ∧ w.cell? ⟨b, 1, none⟩ = some (.int .u64 (l.base 0)) ∧ w.cell? ⟨b, 2, none⟩ = some (.int .u64 (l.base 1)) ∧ w.cell? ⟨b, 3, none⟩ = some (.int .u64 (l.base 2)) ∧ w.cell? ⟨b, 4, none⟩ = some (.int .u64 (l.base 3)) ∧ w.cell? ⟨b, 5, none⟩ = some (.int .u64 (l.base 4)) ∧ w.cell? ⟨b, 6, none⟩ = some (.int .u64 (l.base 5)) ∧ w.cell? ⟨b, 7, none⟩ = some (.int .u64 (l.base 6)) ∧ w.cell? ⟨b, 8, none⟩ = some (.int .u64 (l.base 7)) ∧ w.cell? ⟨b, 9, none⟩ = some (.int .u64 (l.base 8)) ∧ w.cell? ⟨b, 10, none⟩ = some pv :=
 ⟨c7b h rfl, c7b h rfl, c7b h rfl, c7b h rfl, c7b h rfl, c7b h rfl, c7b h rfl, c7b h rfl, c7b h rfl, c7b h rfl, c7b h rfl⟩
/-- How many of a site there are. -/
def cntS (L : List OpX) (s : Int) : Nat := L.countP fun x => x.1.id.site == s
/-- The vector of a base with operations. -/
def hasN (v : Nat → Int) (L : List OpX) : Nat → Int := fun s => v s + cntS L s
theorem hasN_nil (v : Nat → Int) : hasN v [] = v := by funext s; simp [hasN, cntS]
theorem hasN_snoc (v : Nat → Int) (L : List OpX) (x : OpX) (h : 0 ≤ x.1.id.site) : hasN v (L ++ [x]) = upd (hasN v L) x.1.id.site.toNat (hasN v L x.1.id.site.toNat + 1) := by
 funext s
 unfold hasN upd cntS
 rw [List.countP_append, List.countP_singleton]
 by_cases hs : s = x.1.id.site.toNat
 · have : (x.1.id.site == (s : Int)) = true := by rw [beq_iff_eq]; omega
   rw [if_pos hs, this, hs]
   simp; omega
 · have : (x.1.id.site == (s : Int)) = false := by rw [beq_eq_false_iff_ne]; omega
   rw [if_neg hs, this]
   simp
/-- May the operation at a place be there? -/
def lgAt (f : Int) (v : Nat → Int) (L : List OpX) (k : Nat) (x : OpX) : Bool :=
 ((opMayB x.1 && decide (f < x.1.id.time)) && ((k == 0) || decide (cmpId ((L[k - 1]?).getD x).1.id x.1.id < 0))) && decide (x.1.id.seq = hasN v (L.take k) x.1.id.site.toNat + 1)
def lgAts (f : Int) (v : Nat → Int) (L : List OpX) : Bool := (List.range L.length).all fun k => match L[k]? with | none => true | some x => lgAt f v L k x
theorem lgAts_yes {f : Int} {v : Nat → Int} {L : List OpX} (h : ∀ (k : Nat) (x : OpX), L[k]? = some x → lgAt f v L k x = true) : lgAts f v L = true := by
 unfold lgAts
 rw [List.all_eq_true]
 intro k hk
 rw [List.getElem?_eq_getElem (List.mem_range.1 hk)]
 exact h k _ (List.getElem?_eq_getElem (List.mem_range.1 hk))
theorem lgAts_no {f : Int} {v : Nat → Int} {L : List OpX} {k : Nat} {x : OpX} (hx : L[k]? = some x) (h : lgAt f v L k x = false) : lgAts f v L = false := by
 unfold lgAts
 rw [List.all_eq_false]
 refine ⟨k, List.mem_range.2 (List.getElem?_eq_some_iff.1 hx).1, ?_⟩
 rw [hx]
 simp [h]
def LogT.okB (l : LogT) : Bool := (decide (l.folded ≤ MaxT) && vecOk l.base) && lgAts l.folded l.base l.ops
/-- A log that is read: its operations. -/
def LogV (l : LogT) (pv : Value) (w : World) : Prop := ∃ a cap, pv = .slice a l.ops.length cap ∧ OpsV w a l.ops.length cap l.ops ∧ l.ops.length ≤ 1000000000 ∧ ∀ s, s < 9 → 0 ≤ l.base s
theorem opMay_site {o : OpT} (h : opMayB o = true) : ∃ s : Nat, o.id.site = (s : Int) ∧ 1 ≤ s ∧ s < 9 := by
 unfold opMayB mayA at h
 simp only [Bool.and_eq_true] at h
 have h1 := (idOk_iff _).1 h.1.1.1
 exact ⟨o.id.site.toNat, by omega, by omega, by omega⟩
theorem St.tl {w0 x : World} {p : Nat} {o : Obj} {its : List It} (h : St w0 (.blk p o :: its) x) : St w0 its x := ⟨h.low, fun j hj => h.ok j (List.mem_cons_of_mem _ hj), (show _ ∧ _ ∧ _ from h.ord).2.2, fun j hj => h.top j (List.mem_cons_of_mem _ hj)⟩
theorem hasN_bound {v : Nat → Int} {L : List OpX} {k s : Nat} (h0 : 0 ≤ v s) (h1 : v s ≤ MaxT) (hn : L.length ≤ 1000000000) : 0 ≤ hasN v (L.take k) s ∧ hasN v (L.take k) s ≤ MaxT + 1000000000 := by
 unfold hasN cntS
 have h2 := List.countP_le_length (p := fun x : OpX => x.1.id.site == (s : Int)) (l := L.take k)
 rw [List.length_take] at h2
 omega
theorem take_next {L : List OpX} {k : Nat} {x : OpX} (h : L[k]? = some x) : L.take (k + 1) = L.take k ++ [x] := by
 rw [List.take_add_one, h]; rfl
theorem lgM {n k : Nat} {X : Int} (h : k < n) (hX : X = (k : Int) + 1) : n - (intOf (.int .i64 X)).toNat < n - (intOf (.int .i64 (k : Int))).toNat := by
 subst hX
 simp [intOf]
 omega
theorem vecOk_le {v : Nat → Int} (h : vecOk v = true) : ∀ k, 1 ≤ k → k < 9 → v k ≤ MaxT := by
 unfold vecOk at h
 rw [Bool.and_eq_true] at h
 exact (sitesOk_iff v).1 h.2
set_option maxRecDepth 100000 in
set_option maxHeartbeats 4000000 in
theorem lgCheck_any (l : LogT) (pv : Value) (w : World) (hp : LogV l pv w) : Calls Tryz.prog 48 #[.agg (l.cells pv)] w (Gives (.int .i64 (errOf l.okB 240)) w) := by
 obtain ⟨a, cap, rfl, ho, hn, hpos⟩ := hp
 have HPOS := H7 hpos
 clear hpos
 have HS := H7 (St.start w)
 have HO := H7 (fun w' (hb : Below w.heap.size w w') => ho.below hb)
 have HN := H7 hn
 clear ho hn
 have HVC := H7 (fun w' => vecCheck_any l.base w')
 obtain ⟨E, hE⟩ : ∃ E, errOf l.okB 240 = E := ⟨_, rfl⟩
 obtain ⟨b2, h2⟩ : ∃ b, vecOk l.base = b := ⟨_, rfl⟩
 rw [h2] at HVC
 rw [hE]
 unfold LogT.okB at hE
 rw [h2] at hE
 go_enter Tryz.func48, Tryz.ntmps48
 repeat ((fail_if_success (with_reducible refine stop_at (id := 1) ?_)); (first | go_values | go_skip | go_guarded | go_step | go_upon | go_back | (simp only [Int.not_lt, Int.not_le] at *; go_simp) | (go_values <;> (try go_simp)) | (go_ite <;> go_prune <;> (try go_simp)) | (split <;> (first | (rename_i hx; exact (hx _ rfl).elim) | go_prune))))
 have hs_ := (HS.out.alloc (.cells (l.cells (.slice a l.ops.length cap)) 41))
 obtain ⟨w1, hw_⟩ : ∃ w1 : World, (w.alloc (.cells (l.cells (.slice a l.ops.length cap)) 41)) = w1 := ⟨_, rfl⟩
 rw [hw_] at hs_
 try simp only [World.size_alloc] at hs_
 have HS := H7 hs_
 rw [hw_]
 clear hw_ hs_
 obtain ⟨q0, q1, q2, q3, q4, q5, q6, q7, q8, q9, q10⟩ := logCells (HS.out.blockAt 0 rfl)
 by_cases hf : MaxT < l.folded
 · have e1 : decide (l.folded > 4611686018427387904) = true := decide_eq_true hf
   have HE := H7 (show E = 240 by rw [← hE, decide_eq_false (show ¬ l.folded ≤ MaxT from by omega)]; rfl)
   clear hE hf h2
   refine (wpIn_wide (n := 0)).1 ?_
   gi_wp2_with (exfalso; exact undefB (by assumption))
   clear q0 q1 q2 q3 q4 q5 q6 q7 q8 q9 q10
   go_wp2_with fail
   rw [HE.out]
   go_ret
   exact ⟨rfl, HS.out.low⟩
 · have e1 : decide (l.folded > 4611686018427387904) = false := decide_eq_false hf
   rw [decide_eq_true (show l.folded ≤ MaxT from by omega), Bool.true_and] at hE
   have HV2 := H7 h2
   clear hf h2
   refine (wpIn_wide (n := 0)).1 ?_
   gi_wp2_with (exfalso; exact undefB (by assumption))
   clear q0 q1 q2 q3 q4 q5 q6 q7 q8 q9 q10
   refine (callsIn_wide.2 (HVC.out _)).mono ?_
   rintro e w2 ⟨rfl, hb_⟩
   have HS := H7 (HS.out.below hb_)
   clear hb_ HVC
   cases b2 with
   | false =>
    have HE := H7 (show E = 240 by rw [← hE]; rfl)
    clear hE
    rw [show errOf false 230 = 230 from rfl]
    gi_wp2_with (exfalso; exact undefB (by assumption))
    go_wp2_with fail
    rw [HE.out]
    go_ret
    exact ⟨rfl, HS.out.low⟩
   | true =>
    have HE := H7 (show errOf (lgAts l.folded l.base l.ops) 240 = E by rw [← hE]; rfl)
    clear hE e1
    rw [show errOf true 230 = 0 from rfl]
    gi_wp2_with (exfalso; exact undefB (by assumption))
    repeat ((fail_if_success (with_reducible refine stop_at (id := 3) ?_)); (first | go_values | go_skip | go_guarded | go_step | go_upon | go_back | (simp only [Int.not_lt, Int.not_le] at *; go_simp) | (go_values <;> (try go_simp)) | (go_ite <;> go_prune <;> (try go_simp)) | (split <;> (first | (rename_i hx; exact (hx _ rfl).elim) | go_prune))))
    obtain ⟨q0, q1, q2, q3, q4, q5, q6, q7, q8, q9, q10⟩ := logCells (HS.out.blockAt 0 rfl)
    refine (wpIn_wide (n := 0)).1 ?_
    repeat ((fail_if_success (refine opIn_store 24 _ _ rfl w2.heap.size 24 (lit9 fun _ => 0) (lit9 l.base) rfl rfl (World.alloc_heap_new _ _) (by kernel_rfl) rfl (by unfold lit9; rw [List.all_toArray]; rfl) ?_)); gi_step)
    refine opIn_store 24 _ _ rfl w2.heap.size 24 (lit9 fun _ => 0) (lit9 l.base) rfl rfl (World.alloc_heap_new _ _) (by kernel_rfl) rfl (by unfold lit9; rw [List.all_toArray]; rfl) ?_
    simp only [Act.put, List.setIfInBounds_toArray, List.set_cons_succ, List.set_cons_zero]
    clear q0 q1 q2 q3 q4 q5 q6 q7 q8 q9 q10
    rw [show (#[.int .u64 0, .int .u64 0, .int .u64 0, .int .u64 0, .int .u64 0, .int .u64 0, .int .u64 0, .int .u64 0, .int .u64 0] : Array Value) = lit9 (fun _ => 0) from rfl]
    have hs := (HS.out.alloc (.cells (lit9 fun _ => 0) 24 (0, 0))).putRow (c' := lit9 l.base) (pre := []) (by intro i hi; cases hi)
    simp only [List.nil_append] at hs
    obtain ⟨w3, hw3⟩ : ∃ w3, (w2.alloc (.cells (lit9 fun _ => 0) 24 (0, 0))).setRow w2.heap.size (lit9 l.base) = w3 := ⟨_, rfl⟩
    rw [hw3] at hs ⊢
    obtain ⟨g, hg⟩ : ∃ g, w2.heap.size = g := ⟨_, rfl⟩
    rw [hg] at hs ⊢
    have HS := H7 hs
    clear hs hw3 hg
    gi_wp2_with fail
    obtain ⟨-, -, -, -, -, -, -, -, -, -, q10⟩ := logCells (HS.out.blockAt 1 rfl)
    go_wp2_with fail
    clear q10
    go_loopw [20] (fun i wr => ∃ k : Nat, k ≤ l.ops.length ∧ i = .int .i64 (k : Int) ∧ St w [.blk g (.cells (lit9 (hasN l.base (l.ops.take k))) 24 (0, 0)), .blk w.heap.size (.cells (l.cells (.slice a l.ops.length cap)) 41 (0, 0))] wr ∧ ∀ (j : Nat) (x : OpX), l.ops[j]? = some x → j < k → lgAt l.folded l.base l.ops j x = true) (fun i _ => l.ops.length - (intOf i).toNat)
    case atStart => exact ⟨0, by omega, rfl, by rw [List.take_zero, hasN_nil]; exact HS.out, fun j x _ h => by omega⟩
    case round =>
     obtain ⟨k, hk, rfl, hs, hall⟩ := hrel
     clear HS
     have HS := H7 hs
     have HA := H7 hall
     clear hs hall
     by_cases hlt : k < l.ops.length
     · have wk : wrap64 ((k : Int) + 1) = ((k + 1 : Nat) : Int) := by have := HN.out; unfold wrap64; omega
       obtain ⟨x, hx⟩ : ∃ x, l.ops[k]? = some x := ⟨_, List.getElem?_eq_getElem hlt⟩
       have HOK := H7 (show ∀ w', Below w.heap.size w w' → OkO w' x from fun w' hb => (HO.out w' hb).ok x (List.mem_of_getElem? hx))
       obtain ⟨b, off, rfl, -⟩ := (HO.out _ HS.out.low).addr (by omega)
       have HR := H7 ((HO.out _ HS.out.low).rng hx)
       have HX := H7 hx
       clear hx
       obtain ⟨o, pv⟩ := x
       obtain ⟨pa, pc, hpv⟩ : ∃ pa pc, pv = .slice pa o.px.length pc := by obtain ⟨⟨pa, pc, h, -⟩, -⟩ := HOK.out w (B7 _ _); exact ⟨pa, pc, h⟩
       subst hpv
       have HOK := H7 (show ∀ w', Below w.heap.size w w' → PixV o.px (.slice pa o.px.length pc) w' from fun w' hb => (HOK.out w' hb).1)
       have HPL := H7 (show o.px.length ≤ 1000000000 from ((HO.out w (B7 _ _)).ok _ (List.mem_of_getElem? HX.out)).2)
       repeat ((fail_if_success (with_reducible refine stop_at (id := 6) ?_)); (first | go_values | go_skip | go_guarded | go_step | go_upon | go_back | (simp only [Int.not_lt, Int.not_le] at *; go_simp) | (go_values <;> (try go_simp)) | (go_ite <;> go_prune <;> (try go_simp)) | (split <;> (first | (rename_i hx; exact (hx _ rfl).elim) | go_prune))))
       refine (wpIn_wide (n := 0)).1 ?_
       repeat ((fail_if_success (refine opIn_load_mid 51 _ rfl b (off + k * 19) rfl (encO (o, .slice pa o.px.length pc)) _ HR.out Tryz.underlying51 rfl size_O ?_)); gi_step)
       refine opIn_load_mid 51 _ rfl b (off + k * 19) rfl (encO (o, .slice pa o.px.length pc)) _ HR.out Tryz.underlying51 rfl size_O ?_
       rw [show (encO (o, .slice pa o.px.length pc)).toArray = o.cells (.slice pa o.px.length pc) from rfl]
       simp only [Act.put, List.setIfInBounds_toArray, List.set_cons_succ, List.set_cons_zero]
       repeat ((fail_if_success (refine opIn_store 51 _ _ rfl wr.heap.size 51 opZ (o.cells (.slice pa o.px.length pc)) rfl rfl (World.alloc_heap_new _ _) (by kernel_rfl) rfl (by unfold OpT.cells; rw [List.all_toArray]; rfl) ?_)); gi_step)
       refine opIn_store 51 _ _ rfl wr.heap.size 51 opZ (o.cells (.slice pa o.px.length pc)) rfl rfl (World.alloc_heap_new _ _) (by kernel_rfl) rfl (by unfold OpT.cells; rw [List.all_toArray]; rfl) ?_
       simp only [Act.put, List.setIfInBounds_toArray, List.set_cons_succ, List.set_cons_zero]
       rw [← opZ.eq_1]
       have hs := (HS.out.alloc (.cells opZ 51 (0, 0))).putRow (c' := o.cells (.slice pa o.px.length pc)) (pre := []) (by intro i hi; cases hi)
       simp only [List.nil_append] at hs
       obtain ⟨w4, hw4⟩ : ∃ w4, (wr.alloc (.cells opZ 51 (0, 0))).setRow wr.heap.size (o.cells (.slice pa o.px.length pc)) = w4 := ⟨_, rfl⟩
       rw [hw4] at hs ⊢
       obtain ⟨h, hh⟩ : ∃ h, wr.heap.size = h := ⟨_, rfl⟩
       rw [hh] at hs ⊢
       have HS := H7 hs
       clear hs hw4 hh
       gi_wp2_with fail
       have HMB := H7 (fun w' hb => opCheck_any o (.slice pa o.px.length pc) HPL.out w' (HOK.out w' hb))
       obtain ⟨m, hm⟩ : ∃ m, opMayB o = m := ⟨_, rfl⟩
       rw [hm] at HMB
       cases m with
       | false =>
        have HMB := H7 (show ∀ w', Below w.heap.size w w' → Calls Tryz.prog 66 #[.agg (o.cells (.slice pa o.px.length pc))] w' (Gives (.int .i64 220) w') from HMB.out)
        repeat ((fail_if_success (with_reducible refine stop_at (id := 7) ?_)); (first | go_values | go_skip | go_guarded | go_step | go_upon | go_back | (simp only [Int.not_lt, Int.not_le] at *; go_simp) | (go_values <;> (try go_simp)) | (go_ite <;> go_prune <;> (try go_simp)) | (split <;> (first | (rename_i hx; exact (hx _ rfl).elim) | go_prune))))
        refine (wpIn_wide (n := 0)).1 ?_
        apply w7v 28 (Rl := [(eqv _), (eqv _), (eqv _), (eqv _), (fun v_ _ => v_ = (undef : Value)), (fun v_ _ => v_ = (undef : Value)), (fun v_ _ => v_ = (undef : Value)), (fun v_ _ => v_ = (undef : Value)), (fun v_ _ => v_ = (undef : Value)), (fun v_ _ => v_ = (undef : Value)), (eqv _), (eqv _), (fun v_ _ => v_ = (undef : Value)), (fun v_ _ => v_ = (undef : Value)), (fun v_ _ => v_ = (undef : Value)), (fun v_ _ => v_ = (undef : Value)), (fun v_ _ => v_ = (undef : Value)), (fun v_ _ => v_ = (undef : Value)), (fun v_ _ => v_ = (undef : Value)), (fun v_ _ => v_ = (undef : Value)), (fun v_ _ => v_ = (undef : Value)), (fun v_ _ => v_ = (undef : Value)), (fun v_ _ => v_ = (undef : Value)), (fun v_ _ => v_ = (undef : Value)), (fun v_ _ => v_ = (undef : Value)), (fun v_ _ => v_ = (undef : Value)), (fun v_ _ => v_ = (undef : Value)), (eqv _)]) (C := (fun x y => Below x.heap.size x y))
        case hm => kernel_rfl
        case hk => rfl
        case hCr => exact (fun _ => B7 _ _)
        case hCt => intro _ _ _; exact (fun h k => g7t h k)
        case hst => repeat (first | exact trivial | refine ⟨fun _ _ _ _ h => h, ?_⟩)
        case hfo => kernel_rfl
        case ht => kernel_rfl
        case hC0 => exact (g7d _)
        case hsteps =>
         refine ⟨?_, ?_, ?_, ?_, ?_, ?_, ?_, ?_, ?_, ?_, ?_, ?_, ?_, ?_, ?_, ?_, ?_, ?_, ?_, ?_, ?_, ?_, ?_, ?_, ?_, ?_, ?_, ?_, trivial⟩
         · intro a' w' hA hC hD; have s5 := hA.to 5 (by kernel_rfl) rfl; clear hA hD; refine o7p rfl ?_; intro K hK
           refine opIn_load 51 _ rfl h (by simp [Act.eval, s5]) 51 _ (0, 0) _ ((HS.out.below hC).blockAt 0 rfl) Tryz.underlying51 rfl (by kernel_rfl) (hK _ _ rfl (B7 _ _))
         · intro a' w' hA hC hD; obtain ⟨u25, s25, rfl⟩ := hD ⟨0, .data⟩ (by simp) rfl _ rfl; clear hA hD; refine o7p rfl ?_; intro K hK
           gi_wp2_with fail; refine (callsIn_wide.2 (HMB.out _ (HS.out.below hC).low)).mono ?_; rintro e w2 ⟨rfl, hb⟩; exact hK _ _ rfl hb
         · intro a' w' hA hC hD; obtain ⟨u26, s26, rfl⟩ := hD ⟨1, .data⟩ (by simp) rfl _ rfl; clear hA hD; refine o7p rfl ?_; intro K hK; gi_wp2; exact hK _ _ rfl (B7 _ _)
         · intro a' w' hA hC hD; obtain ⟨u27, s27, rfl⟩ := hD ⟨2, .data⟩ (by simp) rfl _ rfl; clear hA hD; refine o7p rfl ?_; intro K hK; gi_wp2; exact hK _ _ rfl (B7 _ _)
         · intro a' w' hA hC hD; have s5 := hA.to 5 (by kernel_rfl) rfl; obtain ⟨u28, s28, rfl⟩ := hD ⟨3, .guard⟩ (by simp) rfl _ rfl; clear hA hD
           exact o7s rfl rfl s28 rfl
         · intro a' w' hA hC hD; obtain ⟨u29, s29, r29⟩ := hD ⟨4, .data⟩ (by simp) rfl _ rfl; replace r29 : u29 = undef := r29; subst r29; obtain ⟨u28, s28, rfl⟩ := hD ⟨3, .guard⟩ (by simp) rfl _ rfl; clear hA hD
           exact o7s rfl rfl s28 rfl
         · intro a' w' hA hC hD; obtain ⟨u30, s30, r30⟩ := hD ⟨5, .data⟩ (by simp) rfl _ rfl; replace r30 : u30 = undef := r30; subst r30; obtain ⟨u28, s28, rfl⟩ := hD ⟨3, .guard⟩ (by simp) rfl _ rfl; clear hA hD
           exact o7s rfl rfl s28 rfl
         · intro a' w' hA hC hD; have s1 := hA.to 1 (by kernel_rfl) rfl; obtain ⟨u28, s28, rfl⟩ := hD ⟨3, .guard⟩ (by simp) rfl _ rfl; clear hA hD
           exact o7s rfl rfl s28 rfl
         · intro a' w' hA hC hD; obtain ⟨u32, s32, r32⟩ := hD ⟨7, .data⟩ (by simp) rfl _ rfl; replace r32 : u32 = undef := r32; subst r32; obtain ⟨u28, s28, rfl⟩ := hD ⟨3, .guard⟩ (by simp) rfl _ rfl; clear hA hD
           exact o7s rfl rfl s28 rfl
         · intro a' w' hA hC hD; obtain ⟨u31, s31, r31⟩ := hD ⟨6, .data⟩ (by simp) rfl _ rfl; replace r31 : u31 = undef := r31; subst r31; obtain ⟨u33, s33, r33⟩ := hD ⟨8, .data⟩ (by simp) rfl _ rfl; replace r33 : u33 = undef := r33; subst r33; obtain ⟨u28, s28, rfl⟩ := hD ⟨3, .guard⟩ (by simp) rfl _ rfl; clear hA hD
           exact o7s rfl rfl s28 rfl
         · intro a' w' hA hC hD; obtain ⟨u28, s28, rfl⟩ := hD ⟨3, .data⟩ (by simp) rfl _ rfl; obtain ⟨u34, s34, r34⟩ := hD ⟨9, .data⟩ (by simp) rfl _ rfl; replace r34 : u34 = undef := r34; subst r34; clear hA hD; refine o7p rfl ?_; intro K hK; gi_wp2; exact hK _ _ rfl (B7 _ _)
         · intro a' w' hA hC hD; obtain ⟨u35, s35, rfl⟩ := hD ⟨10, .data⟩ (by simp) rfl _ rfl; clear hA hD; refine o7p rfl ?_; intro K hK; gi_wp2; exact hK _ _ rfl (B7 _ _)
         · intro a' w' hA hC hD; have s4 := hA.to 4 (by kernel_rfl) rfl; obtain ⟨u36, s36, rfl⟩ := hD ⟨11, .guard⟩ (by simp) rfl _ rfl; clear hA hD
           exact o7s rfl rfl s36 rfl
         · intro a' w' hA hC hD; obtain ⟨u37, s37, r37⟩ := hD ⟨12, .data⟩ (by simp) rfl _ rfl; replace r37 : u37 = undef := r37; subst r37; obtain ⟨u36, s36, rfl⟩ := hD ⟨11, .guard⟩ (by simp) rfl _ rfl; clear hA hD
           exact o7s rfl rfl s36 rfl
         · intro a' w' hA hC hD; obtain ⟨u38, s38, r38⟩ := hD ⟨13, .data⟩ (by simp) rfl _ rfl; replace r38 : u38 = undef := r38; subst r38; obtain ⟨u36, s36, rfl⟩ := hD ⟨11, .chain⟩ (by simp) rfl _ rfl; clear hA hD
           exact o7s rfl rfl s36 rfl
         · intro a' w' hA hC hD; have s1 := hA.to 1 (by kernel_rfl) rfl; obtain ⟨u39, s39, r39⟩ := hD ⟨14, .guard⟩ (by simp) rfl _ rfl; replace r39 : u39 = undef := r39; subst r39; clear hA hD
           exact stepOk_skip' rfl rfl s39 rfl
         · intro a' w' hA hC hD; obtain ⟨u40, s40, r40⟩ := hD ⟨15, .data⟩ (by simp) rfl _ rfl; replace r40 : u40 = undef := r40; subst r40; obtain ⟨u39, s39, r39⟩ := hD ⟨14, .guard⟩ (by simp) rfl _ rfl; replace r39 : u39 = undef := r39; subst r39; clear hA hD
           exact stepOk_skip' rfl rfl s39 rfl
         · intro a' w' hA hC hD; have s4 := hA.to 4 (by kernel_rfl) rfl; obtain ⟨u39, s39, r39⟩ := hD ⟨14, .guard⟩ (by simp) rfl _ rfl; replace r39 : u39 = undef := r39; subst r39; clear hA hD
           exact stepOk_skip' rfl rfl s39 rfl
         · intro a' w' hA hC hD; obtain ⟨u42, s42, r42⟩ := hD ⟨17, .data⟩ (by simp) rfl _ rfl; replace r42 : u42 = undef := r42; subst r42; obtain ⟨u39, s39, r39⟩ := hD ⟨14, .guard⟩ (by simp) rfl _ rfl; replace r39 : u39 = undef := r39; subst r39; clear hA hD
           exact stepOk_skip' rfl rfl s39 rfl
         · intro a' w' hA hC hD; obtain ⟨u41, s41, r41⟩ := hD ⟨16, .data⟩ (by simp) rfl _ rfl; replace r41 : u41 = undef := r41; subst r41; obtain ⟨u43, s43, r43⟩ := hD ⟨18, .data⟩ (by simp) rfl _ rfl; replace r43 : u43 = undef := r43; subst r43; obtain ⟨u39, s39, r39⟩ := hD ⟨14, .guard⟩ (by simp) rfl _ rfl; replace r39 : u39 = undef := r39; subst r39; clear hA hD
           exact stepOk_skip' rfl rfl s39 rfl
         · intro a' w' hA hC hD; obtain ⟨u44, s44, r44⟩ := hD ⟨19, .data⟩ (by simp) rfl _ rfl; replace r44 : u44 = undef := r44; subst r44; obtain ⟨u39, s39, r39⟩ := hD ⟨14, .guard⟩ (by simp) rfl _ rfl; replace r39 : u39 = undef := r39; subst r39; clear hA hD
           exact stepOk_skip' rfl rfl s39 rfl
         · intro a' w' hA hC hD; obtain ⟨u45, s45, r45⟩ := hD ⟨20, .data⟩ (by simp) rfl _ rfl; replace r45 : u45 = undef := r45; subst r45; obtain ⟨u39, s39, r39⟩ := hD ⟨14, .guard⟩ (by simp) rfl _ rfl; replace r39 : u39 = undef := r39; subst r39; clear hA hD
           exact stepOk_skip' rfl rfl s39 rfl
         · intro a' w' hA hC hD; have s5 := hA.to 5 (by kernel_rfl) rfl; obtain ⟨u39, s39, r39⟩ := hD ⟨14, .guard⟩ (by simp) rfl _ rfl; replace r39 : u39 = undef := r39; subst r39; clear hA hD
           exact stepOk_skip' rfl rfl s39 rfl
         · intro a' w' hA hC hD; obtain ⟨u47, s47, r47⟩ := hD ⟨22, .data⟩ (by simp) rfl _ rfl; replace r47 : u47 = undef := r47; subst r47; obtain ⟨u39, s39, r39⟩ := hD ⟨14, .guard⟩ (by simp) rfl _ rfl; replace r39 : u39 = undef := r39; subst r39; clear hA hD
           exact stepOk_skip' rfl rfl s39 rfl
         · intro a' w' hA hC hD; obtain ⟨u46, s46, r46⟩ := hD ⟨21, .data⟩ (by simp) rfl _ rfl; replace r46 : u46 = undef := r46; subst r46; obtain ⟨u48, s48, r48⟩ := hD ⟨23, .data⟩ (by simp) rfl _ rfl; replace r48 : u48 = undef := r48; subst r48; obtain ⟨u39, s39, r39⟩ := hD ⟨14, .chain⟩ (by simp) rfl _ rfl; replace r39 : u39 = undef := r39; subst r39; clear hA hD
           exact stepOk_skip' rfl rfl s39 rfl
         · intro a' w' hA hC hD; obtain ⟨u49, s49, r49⟩ := hD ⟨24, .data⟩ (by simp) rfl _ rfl; replace r49 : u49 = undef := r49; subst r49; obtain ⟨u39, s39, r39⟩ := hD ⟨14, .guard⟩ (by simp) rfl _ rfl; replace r39 : u39 = undef := r39; subst r39; clear hA hD
           exact stepOk_skip' rfl rfl s39 rfl
         · intro a' w' hA hC hD; obtain ⟨u39, s39, r39⟩ := hD ⟨14, .data⟩ (by simp) rfl _ rfl; replace r39 : u39 = undef := r39; subst r39; obtain ⟨u50, s50, r50⟩ := hD ⟨25, .data⟩ (by simp) rfl _ rfl; replace r50 : u50 = undef := r50; subst r50; obtain ⟨u36, s36, rfl⟩ := hD ⟨11, .guard⟩ (by simp) rfl _ rfl; clear hA hD
           exact o7s rfl rfl s36 rfl
         · intro a' w' hA hC hD; obtain ⟨u36, s36, rfl⟩ := hD ⟨11, .data⟩ (by simp) rfl _ rfl; obtain ⟨u51, s51, r51⟩ := hD ⟨26, .data⟩ (by simp) rfl _ rfl; replace r51 : u51 = undef := r51; subst r51; clear hA hD; refine o7p rfl ?_; intro K hK; gi_wp2; exact hK _ _ rfl (B7 _ _)
        case hend =>
         intro w5 hC
         simp only [EndFrom, eqv, forall_eq, Act.put, List.length_cons, List.length_nil, List.drop_succ_cons, List.drop_zero, Nat.reduceAdd, List.setIfInBounds_toArray, List.set_cons_succ, List.set_cons_zero]
         have HS := H7 (HS.out.below hC)
         clear hC
         gi_wp2
         go_wp2_with fail
         have hE := HE.out
         rw [lgAts_no HX.out (by unfold lgAt; rw [show opMayB (o, Value.slice pa o.px.length pc).1 = false from hm]; rfl)] at hE
         rw [show E = 240 from hE.symm]
         go_ret
         exact ⟨rfl, HS.out.low⟩
       | true =>
        have HM1 := H7 hm
        have HMB := H7 (show ∀ w', Below w.heap.size w w' → Calls Tryz.prog 66 #[.agg (o.cells (.slice pa o.px.length pc))] w' (Gives (.int .i64 0) w') from HMB.out)
        by_cases ht : o.id.time ≤ l.folded
        · have HK1 := H7 (show decide (o.id.time ≤ l.folded) = true from decide_eq_true ht)
          clear ht
          repeat ((fail_if_success (with_reducible refine stop_at (id := 7) ?_)); (first | go_values | go_skip | go_guarded | go_step | go_upon | go_back | (simp only [Int.not_lt, Int.not_le] at *; go_simp) | (go_values <;> (try go_simp)) | (go_ite <;> go_prune <;> (try go_simp)) | (split <;> (first | (rename_i hx; exact (hx _ rfl).elim) | go_prune))))
          refine (wpIn_wide (n := 0)).1 ?_
          apply w7v 28 (Rl := [(eqv _), (eqv _), (eqv _), (eqv _), (eqv _), (eqv _), (eqv _), (eqv _), (eqv _), (eqv _), (eqv _), (eqv _), (fun v_ _ => v_ = (undef : Value)), (fun v_ _ => v_ = (undef : Value)), (fun v_ _ => v_ = (undef : Value)), (fun v_ _ => v_ = (undef : Value)), (fun v_ _ => v_ = (undef : Value)), (fun v_ _ => v_ = (undef : Value)), (fun v_ _ => v_ = (undef : Value)), (fun v_ _ => v_ = (undef : Value)), (fun v_ _ => v_ = (undef : Value)), (fun v_ _ => v_ = (undef : Value)), (fun v_ _ => v_ = (undef : Value)), (fun v_ _ => v_ = (undef : Value)), (fun v_ _ => v_ = (undef : Value)), (fun v_ _ => v_ = (undef : Value)), (fun v_ _ => v_ = (undef : Value)), (eqv _)]) (C := (fun x y => Below x.heap.size x y))
          case hm => kernel_rfl
          case hk => rfl
          case hCr => exact (fun _ => B7 _ _)
          case hCt => intro _ _ _; exact (fun h k => g7t h k)
          case hst => repeat (first | exact trivial | refine ⟨fun _ _ _ _ h => h, ?_⟩)
          case hfo => kernel_rfl
          case ht => kernel_rfl
          case hC0 => exact (g7d _)
          case hsteps =>
           refine ⟨?_, ?_, ?_, ?_, ?_, ?_, ?_, ?_, ?_, ?_, ?_, ?_, ?_, ?_, ?_, ?_, ?_, ?_, ?_, ?_, ?_, ?_, ?_, ?_, ?_, ?_, ?_, ?_, trivial⟩
           · intro a' w' hA hC hD; have s5 := hA.to 5 (by kernel_rfl) rfl; clear hA hD; refine o7p rfl ?_; intro K hK
             refine opIn_load 51 _ rfl h (by simp [Act.eval, s5]) 51 _ (0, 0) _ ((HS.out.below hC).blockAt 0 rfl) Tryz.underlying51 rfl (by kernel_rfl) (hK _ _ rfl (B7 _ _))
           · intro a' w' hA hC hD; obtain ⟨u25, s25, rfl⟩ := hD ⟨0, .data⟩ (by simp) rfl _ rfl; clear hA hD; refine o7p rfl ?_; intro K hK
             gi_wp2_with fail; refine (callsIn_wide.2 (HMB.out _ (HS.out.below hC).low)).mono ?_; rintro e w2 ⟨rfl, hb⟩; exact hK _ _ rfl hb
           · intro a' w' hA hC hD; obtain ⟨u26, s26, rfl⟩ := hD ⟨1, .data⟩ (by simp) rfl _ rfl; clear hA hD; refine o7p rfl ?_; intro K hK; gi_wp2; exact hK _ _ rfl (B7 _ _)
           · intro a' w' hA hC hD; obtain ⟨u27, s27, rfl⟩ := hD ⟨2, .data⟩ (by simp) rfl _ rfl; clear hA hD; refine o7p rfl ?_; intro K hK; gi_wp2; exact hK _ _ rfl (B7 _ _)
           · intro a' w' hA hC hD; have s5 := hA.to 5 (by kernel_rfl) rfl; obtain ⟨u28, s28, rfl⟩ := hD ⟨3, .guard⟩ (by simp) rfl _ rfl; clear hA hD; refine o7w rfl rfl s28 ?_; intro K hK; gi_wp2; exact hK _ _ rfl (B7 _ _)
           · intro a' w' hA hC hD; obtain ⟨u29, s29, rfl⟩ := hD ⟨4, .data⟩ (by simp) rfl _ rfl; obtain ⟨u28, s28, rfl⟩ := hD ⟨3, .guard⟩ (by simp) rfl _ rfl; clear hA hD; refine o7w rfl rfl s28 ?_; intro K hK; gi_wp2; exact hK _ _ rfl (B7 _ _)
           · intro a' w' hA hC hD; obtain ⟨u30, s30, rfl⟩ := hD ⟨5, .data⟩ (by simp) rfl _ rfl; obtain ⟨u28, s28, rfl⟩ := hD ⟨3, .guard⟩ (by simp) rfl _ rfl
             obtain ⟨q0, q1, q2, -⟩ := opCells ((HS.out.below hC).blockAt 0 rfl)
             clear hA hD; refine o7w rfl rfl s28 ?_; intro K hK; gi_wp2; exact hK _ _ rfl (B7 _ _)
           · intro a' w' hA hC hD; have s1 := hA.to 1 (by kernel_rfl) rfl; obtain ⟨u28, s28, rfl⟩ := hD ⟨3, .guard⟩ (by simp) rfl _ rfl; clear hA hD; refine o7w rfl rfl s28 ?_; intro K hK; gi_wp2; exact hK _ _ rfl (B7 _ _)
           · intro a' w' hA hC hD; obtain ⟨u32, s32, rfl⟩ := hD ⟨7, .data⟩ (by simp) rfl _ rfl; obtain ⟨u28, s28, rfl⟩ := hD ⟨3, .guard⟩ (by simp) rfl _ rfl
             obtain ⟨z0, -⟩ := logCells ((HS.out.below hC).blockAt 2 rfl)
             clear hA hD; refine o7w rfl rfl s28 ?_; intro K hK; gi_wp2; exact hK _ _ rfl (B7 _ _)
           · intro a' w' hA hC hD; obtain ⟨u31, s31, rfl⟩ := hD ⟨6, .data⟩ (by simp) rfl _ rfl; obtain ⟨u33, s33, rfl⟩ := hD ⟨8, .data⟩ (by simp) rfl _ rfl; obtain ⟨u28, s28, rfl⟩ := hD ⟨3, .guard⟩ (by simp) rfl _ rfl; clear hA hD; refine o7w rfl rfl s28 ?_; intro K hK; gi_wp2; rw [HK1.out]; exact hK _ _ rfl (B7 _ _)
           · intro a' w' hA hC hD; obtain ⟨u28, s28, rfl⟩ := hD ⟨3, .data⟩ (by simp) rfl _ rfl; obtain ⟨u34, s34, rfl⟩ := hD ⟨9, .data⟩ (by simp) rfl _ rfl; clear hA hD; refine o7p rfl ?_; intro K hK; gi_wp2; exact hK _ _ rfl (B7 _ _)
           · intro a' w' hA hC hD; obtain ⟨u35, s35, rfl⟩ := hD ⟨10, .data⟩ (by simp) rfl _ rfl; clear hA hD; refine o7p rfl ?_; intro K hK; gi_wp2; exact hK _ _ rfl (B7 _ _)
           · intro a' w' hA hC hD; have s4 := hA.to 4 (by kernel_rfl) rfl; obtain ⟨u36, s36, rfl⟩ := hD ⟨11, .guard⟩ (by simp) rfl _ rfl; clear hA hD
             exact o7s rfl rfl s36 rfl
           · intro a' w' hA hC hD; obtain ⟨u37, s37, r37⟩ := hD ⟨12, .data⟩ (by simp) rfl _ rfl; replace r37 : u37 = undef := r37; subst r37; obtain ⟨u36, s36, rfl⟩ := hD ⟨11, .guard⟩ (by simp) rfl _ rfl; clear hA hD
             exact o7s rfl rfl s36 rfl
           · intro a' w' hA hC hD; obtain ⟨u38, s38, r38⟩ := hD ⟨13, .data⟩ (by simp) rfl _ rfl; replace r38 : u38 = undef := r38; subst r38; obtain ⟨u36, s36, rfl⟩ := hD ⟨11, .chain⟩ (by simp) rfl _ rfl; clear hA hD
             exact o7s rfl rfl s36 rfl
           · intro a' w' hA hC hD; have s1 := hA.to 1 (by kernel_rfl) rfl; obtain ⟨u39, s39, r39⟩ := hD ⟨14, .guard⟩ (by simp) rfl _ rfl; replace r39 : u39 = undef := r39; subst r39; clear hA hD
             exact stepOk_skip' rfl rfl s39 rfl
           · intro a' w' hA hC hD; obtain ⟨u40, s40, r40⟩ := hD ⟨15, .data⟩ (by simp) rfl _ rfl; replace r40 : u40 = undef := r40; subst r40; obtain ⟨u39, s39, r39⟩ := hD ⟨14, .guard⟩ (by simp) rfl _ rfl; replace r39 : u39 = undef := r39; subst r39; clear hA hD
             exact stepOk_skip' rfl rfl s39 rfl
           · intro a' w' hA hC hD; have s4 := hA.to 4 (by kernel_rfl) rfl; obtain ⟨u39, s39, r39⟩ := hD ⟨14, .guard⟩ (by simp) rfl _ rfl; replace r39 : u39 = undef := r39; subst r39; clear hA hD
             exact stepOk_skip' rfl rfl s39 rfl
           · intro a' w' hA hC hD; obtain ⟨u42, s42, r42⟩ := hD ⟨17, .data⟩ (by simp) rfl _ rfl; replace r42 : u42 = undef := r42; subst r42; obtain ⟨u39, s39, r39⟩ := hD ⟨14, .guard⟩ (by simp) rfl _ rfl; replace r39 : u39 = undef := r39; subst r39; clear hA hD
             exact stepOk_skip' rfl rfl s39 rfl
           · intro a' w' hA hC hD; obtain ⟨u41, s41, r41⟩ := hD ⟨16, .data⟩ (by simp) rfl _ rfl; replace r41 : u41 = undef := r41; subst r41; obtain ⟨u43, s43, r43⟩ := hD ⟨18, .data⟩ (by simp) rfl _ rfl; replace r43 : u43 = undef := r43; subst r43; obtain ⟨u39, s39, r39⟩ := hD ⟨14, .guard⟩ (by simp) rfl _ rfl; replace r39 : u39 = undef := r39; subst r39; clear hA hD
             exact stepOk_skip' rfl rfl s39 rfl
           · intro a' w' hA hC hD; obtain ⟨u44, s44, r44⟩ := hD ⟨19, .data⟩ (by simp) rfl _ rfl; replace r44 : u44 = undef := r44; subst r44; obtain ⟨u39, s39, r39⟩ := hD ⟨14, .guard⟩ (by simp) rfl _ rfl; replace r39 : u39 = undef := r39; subst r39; clear hA hD
             exact stepOk_skip' rfl rfl s39 rfl
           · intro a' w' hA hC hD; obtain ⟨u45, s45, r45⟩ := hD ⟨20, .data⟩ (by simp) rfl _ rfl; replace r45 : u45 = undef := r45; subst r45; obtain ⟨u39, s39, r39⟩ := hD ⟨14, .guard⟩ (by simp) rfl _ rfl; replace r39 : u39 = undef := r39; subst r39; clear hA hD
             exact stepOk_skip' rfl rfl s39 rfl
           · intro a' w' hA hC hD; have s5 := hA.to 5 (by kernel_rfl) rfl; obtain ⟨u39, s39, r39⟩ := hD ⟨14, .guard⟩ (by simp) rfl _ rfl; replace r39 : u39 = undef := r39; subst r39; clear hA hD
             exact stepOk_skip' rfl rfl s39 rfl
           · intro a' w' hA hC hD; obtain ⟨u47, s47, r47⟩ := hD ⟨22, .data⟩ (by simp) rfl _ rfl; replace r47 : u47 = undef := r47; subst r47; obtain ⟨u39, s39, r39⟩ := hD ⟨14, .guard⟩ (by simp) rfl _ rfl; replace r39 : u39 = undef := r39; subst r39; clear hA hD
             exact stepOk_skip' rfl rfl s39 rfl
           · intro a' w' hA hC hD; obtain ⟨u46, s46, r46⟩ := hD ⟨21, .data⟩ (by simp) rfl _ rfl; replace r46 : u46 = undef := r46; subst r46; obtain ⟨u48, s48, r48⟩ := hD ⟨23, .data⟩ (by simp) rfl _ rfl; replace r48 : u48 = undef := r48; subst r48; obtain ⟨u39, s39, r39⟩ := hD ⟨14, .chain⟩ (by simp) rfl _ rfl; replace r39 : u39 = undef := r39; subst r39; clear hA hD
             exact stepOk_skip' rfl rfl s39 rfl
           · intro a' w' hA hC hD; obtain ⟨u49, s49, r49⟩ := hD ⟨24, .data⟩ (by simp) rfl _ rfl; replace r49 : u49 = undef := r49; subst r49; obtain ⟨u39, s39, r39⟩ := hD ⟨14, .guard⟩ (by simp) rfl _ rfl; replace r39 : u39 = undef := r39; subst r39; clear hA hD
             exact stepOk_skip' rfl rfl s39 rfl
           · intro a' w' hA hC hD; obtain ⟨u39, s39, r39⟩ := hD ⟨14, .data⟩ (by simp) rfl _ rfl; replace r39 : u39 = undef := r39; subst r39; obtain ⟨u50, s50, r50⟩ := hD ⟨25, .data⟩ (by simp) rfl _ rfl; replace r50 : u50 = undef := r50; subst r50; obtain ⟨u36, s36, rfl⟩ := hD ⟨11, .guard⟩ (by simp) rfl _ rfl; clear hA hD
             exact o7s rfl rfl s36 rfl
           · intro a' w' hA hC hD; obtain ⟨u36, s36, rfl⟩ := hD ⟨11, .data⟩ (by simp) rfl _ rfl; obtain ⟨u51, s51, r51⟩ := hD ⟨26, .data⟩ (by simp) rfl _ rfl; replace r51 : u51 = undef := r51; subst r51; clear hA hD; refine o7p rfl ?_; intro K hK; gi_wp2; exact hK _ _ rfl (B7 _ _)
          case hend =>
           intro w5 hC
           simp only [EndFrom, eqv, forall_eq, Act.put, List.length_cons, List.length_nil, List.drop_succ_cons, List.drop_zero, Nat.reduceAdd, List.setIfInBounds_toArray, List.set_cons_succ, List.set_cons_zero]
           have HS := H7 (HS.out.below hC)
           clear hC
           gi_wp2
           go_wp2_with fail
           have hE := HE.out
           rw [lgAts_no HX.out (by unfold lgAt; rw [show decide (l.folded < (o, Value.slice pa o.px.length pc).1.id.time) = false from decide_eq_false (by have ht := of_decide_eq_true HK1.out; dsimp only; omega)]; simp)] at hE
           rw [show E = 240 from hE.symm]
           go_ret
           exact ⟨rfl, HS.out.low⟩
        · have HK1 := H7 (show decide (o.id.time ≤ l.folded) = false from decide_eq_false ht)
          have HLT := H7 hlt
          clear ht hlt
          cases k with
          | zero =>
           have HK2 := H7 (show decide (((0 : Nat) : Int) > 0) = false from rfl)
           repeat ((fail_if_success (with_reducible refine stop_at (id := 7) ?_)); (first | go_values | go_skip | go_guarded | go_step | go_upon | go_back | (simp only [Int.not_lt, Int.not_le] at *; go_simp) | (go_values <;> (try go_simp)) | (go_ite <;> go_prune <;> (try go_simp)) | (split <;> (first | (rename_i hx; exact (hx _ rfl).elim) | go_prune))))
           refine (wpIn_wide (n := 0)).1 ?_
           apply w7v 28 (Rl := [(eqv _), (eqv _), (eqv _), (eqv _), (eqv _), (eqv _), (eqv _), (eqv _), (eqv _), (eqv _), (eqv _), (eqv _), (eqv _), (eqv _), (eqv _), (fun v_ _ => v_ = (undef : Value)), (fun v_ _ => v_ = (undef : Value)), (fun v_ _ => v_ = (undef : Value)), (fun v_ _ => v_ = (undef : Value)), (fun v_ _ => v_ = (undef : Value)), (fun v_ _ => v_ = (undef : Value)), (fun v_ _ => v_ = (undef : Value)), (fun v_ _ => v_ = (undef : Value)), (fun v_ _ => v_ = (undef : Value)), (fun v_ _ => v_ = (undef : Value)), (fun v_ _ => v_ = (undef : Value)), (eqv _), (eqv _)]) (C := (fun x y => Below x.heap.size x y))
           case hm => kernel_rfl
           case hk => rfl
           case hCr => exact (fun _ => B7 _ _)
           case hCt => intro _ _ _; exact (fun h k => g7t h k)
           case hst => repeat (first | exact trivial | refine ⟨fun _ _ _ _ h => h, ?_⟩)
           case hfo => kernel_rfl
           case ht => kernel_rfl
           case hC0 => exact (g7d _)
           case hsteps =>
            refine ⟨?_, ?_, ?_, ?_, ?_, ?_, ?_, ?_, ?_, ?_, ?_, ?_, ?_, ?_, ?_, ?_, ?_, ?_, ?_, ?_, ?_, ?_, ?_, ?_, ?_, ?_, ?_, ?_, trivial⟩
            · intro a' w' hA hC hD; have s5 := hA.to 5 (by kernel_rfl) rfl; clear hA hD; refine o7p rfl ?_; intro K hK
              refine opIn_load 51 _ rfl h (by simp [Act.eval, s5]) 51 _ (0, 0) _ ((HS.out.below hC).blockAt 0 rfl) Tryz.underlying51 rfl (by kernel_rfl) (hK _ _ rfl (B7 _ _))
            · intro a' w' hA hC hD; obtain ⟨u25, s25, rfl⟩ := hD ⟨0, .data⟩ (by simp) rfl _ rfl; clear hA hD; refine o7p rfl ?_; intro K hK
              gi_wp2_with fail; refine (callsIn_wide.2 (HMB.out _ (HS.out.below hC).low)).mono ?_; rintro e w2 ⟨rfl, hb⟩; exact hK _ _ rfl hb
            · intro a' w' hA hC hD; obtain ⟨u26, s26, rfl⟩ := hD ⟨1, .data⟩ (by simp) rfl _ rfl; clear hA hD; refine o7p rfl ?_; intro K hK; gi_wp2; exact hK _ _ rfl (B7 _ _)
            · intro a' w' hA hC hD; obtain ⟨u27, s27, rfl⟩ := hD ⟨2, .data⟩ (by simp) rfl _ rfl; clear hA hD; refine o7p rfl ?_; intro K hK; gi_wp2; exact hK _ _ rfl (B7 _ _)
            · intro a' w' hA hC hD; have s5 := hA.to 5 (by kernel_rfl) rfl; obtain ⟨u28, s28, rfl⟩ := hD ⟨3, .guard⟩ (by simp) rfl _ rfl; clear hA hD; refine o7w rfl rfl s28 ?_; intro K hK; gi_wp2; exact hK _ _ rfl (B7 _ _)
            · intro a' w' hA hC hD; obtain ⟨u29, s29, rfl⟩ := hD ⟨4, .data⟩ (by simp) rfl _ rfl; obtain ⟨u28, s28, rfl⟩ := hD ⟨3, .guard⟩ (by simp) rfl _ rfl; clear hA hD; refine o7w rfl rfl s28 ?_; intro K hK; gi_wp2; exact hK _ _ rfl (B7 _ _)
            · intro a' w' hA hC hD; obtain ⟨u30, s30, rfl⟩ := hD ⟨5, .data⟩ (by simp) rfl _ rfl; obtain ⟨u28, s28, rfl⟩ := hD ⟨3, .guard⟩ (by simp) rfl _ rfl
              obtain ⟨q0, q1, q2, -⟩ := opCells ((HS.out.below hC).blockAt 0 rfl)
              clear hA hD; refine o7w rfl rfl s28 ?_; intro K hK; gi_wp2; exact hK _ _ rfl (B7 _ _)
            · intro a' w' hA hC hD; have s1 := hA.to 1 (by kernel_rfl) rfl; obtain ⟨u28, s28, rfl⟩ := hD ⟨3, .guard⟩ (by simp) rfl _ rfl; clear hA hD; refine o7w rfl rfl s28 ?_; intro K hK; gi_wp2; exact hK _ _ rfl (B7 _ _)
            · intro a' w' hA hC hD; obtain ⟨u32, s32, rfl⟩ := hD ⟨7, .data⟩ (by simp) rfl _ rfl; obtain ⟨u28, s28, rfl⟩ := hD ⟨3, .guard⟩ (by simp) rfl _ rfl
              obtain ⟨z0, -⟩ := logCells ((HS.out.below hC).blockAt 2 rfl)
              clear hA hD; refine o7w rfl rfl s28 ?_; intro K hK; gi_wp2; exact hK _ _ rfl (B7 _ _)
            · intro a' w' hA hC hD; obtain ⟨u31, s31, rfl⟩ := hD ⟨6, .data⟩ (by simp) rfl _ rfl; obtain ⟨u33, s33, rfl⟩ := hD ⟨8, .data⟩ (by simp) rfl _ rfl; obtain ⟨u28, s28, rfl⟩ := hD ⟨3, .guard⟩ (by simp) rfl _ rfl; clear hA hD; refine o7w rfl rfl s28 ?_; intro K hK; gi_wp2; rw [HK1.out]; exact hK _ _ rfl (B7 _ _)
            · intro a' w' hA hC hD; obtain ⟨u28, s28, rfl⟩ := hD ⟨3, .data⟩ (by simp) rfl _ rfl; obtain ⟨u34, s34, rfl⟩ := hD ⟨9, .data⟩ (by simp) rfl _ rfl; clear hA hD; refine o7p rfl ?_; intro K hK; gi_wp2; exact hK _ _ rfl (B7 _ _)
            · intro a' w' hA hC hD; obtain ⟨u35, s35, rfl⟩ := hD ⟨10, .data⟩ (by simp) rfl _ rfl; clear hA hD; refine o7p rfl ?_; intro K hK; gi_wp2; exact hK _ _ rfl (B7 _ _)
            · intro a' w' hA hC hD; have s4 := hA.to 4 (by kernel_rfl) rfl; obtain ⟨u36, s36, rfl⟩ := hD ⟨11, .guard⟩ (by simp) rfl _ rfl; clear hA hD; refine o7w rfl rfl s36 ?_; intro K hK; gi_wp2; exact hK _ _ rfl (B7 _ _)
            · intro a' w' hA hC hD; obtain ⟨u37, s37, rfl⟩ := hD ⟨12, .data⟩ (by simp) rfl _ rfl; obtain ⟨u36, s36, rfl⟩ := hD ⟨11, .guard⟩ (by simp) rfl _ rfl; clear hA hD; refine o7w rfl rfl s36 ?_; intro K hK; gi_wp2; exact hK _ _ rfl (B7 _ _)
            · intro a' w' hA hC hD; obtain ⟨u38, s38, rfl⟩ := hD ⟨13, .data⟩ (by simp) rfl _ rfl; obtain ⟨u36, s36, rfl⟩ := hD ⟨11, .chain⟩ (by simp) rfl _ rfl; clear hA hD; refine o7w rfl rfl s36 ?_; intro K hK; gi_wp2; exact hK _ _ rfl (B7 _ _)
            · intro a' w' hA hC hD; have s1 := hA.to 1 (by kernel_rfl) rfl; obtain ⟨u39, s39, rfl⟩ := hD ⟨14, .guard⟩ (by simp) rfl _ rfl; clear hA hD
              exact o7s rfl rfl s39 rfl
            · intro a' w' hA hC hD; obtain ⟨u40, s40, r40⟩ := hD ⟨15, .data⟩ (by simp) rfl _ rfl; replace r40 : u40 = undef := r40; subst r40; obtain ⟨u39, s39, rfl⟩ := hD ⟨14, .guard⟩ (by simp) rfl _ rfl; clear hA hD
              exact o7s rfl rfl s39 rfl
            · intro a' w' hA hC hD; have s4 := hA.to 4 (by kernel_rfl) rfl; obtain ⟨u39, s39, rfl⟩ := hD ⟨14, .guard⟩ (by simp) rfl _ rfl; clear hA hD
              exact o7s rfl rfl s39 rfl
            · intro a' w' hA hC hD; obtain ⟨u42, s42, r42⟩ := hD ⟨17, .data⟩ (by simp) rfl _ rfl; replace r42 : u42 = undef := r42; subst r42; obtain ⟨u39, s39, rfl⟩ := hD ⟨14, .guard⟩ (by simp) rfl _ rfl; clear hA hD
              exact o7s rfl rfl s39 rfl
            · intro a' w' hA hC hD; obtain ⟨u41, s41, r41⟩ := hD ⟨16, .data⟩ (by simp) rfl _ rfl; replace r41 : u41 = undef := r41; subst r41; obtain ⟨u43, s43, r43⟩ := hD ⟨18, .data⟩ (by simp) rfl _ rfl; replace r43 : u43 = undef := r43; subst r43; obtain ⟨u39, s39, rfl⟩ := hD ⟨14, .guard⟩ (by simp) rfl _ rfl; clear hA hD
              exact o7s rfl rfl s39 rfl
            · intro a' w' hA hC hD; obtain ⟨u44, s44, r44⟩ := hD ⟨19, .data⟩ (by simp) rfl _ rfl; replace r44 : u44 = undef := r44; subst r44; obtain ⟨u39, s39, rfl⟩ := hD ⟨14, .guard⟩ (by simp) rfl _ rfl; clear hA hD
              exact o7s rfl rfl s39 rfl
            · intro a' w' hA hC hD; obtain ⟨u45, s45, r45⟩ := hD ⟨20, .data⟩ (by simp) rfl _ rfl; replace r45 : u45 = undef := r45; subst r45; obtain ⟨u39, s39, rfl⟩ := hD ⟨14, .guard⟩ (by simp) rfl _ rfl; clear hA hD
              exact o7s rfl rfl s39 rfl
            · intro a' w' hA hC hD; have s5 := hA.to 5 (by kernel_rfl) rfl; obtain ⟨u39, s39, rfl⟩ := hD ⟨14, .guard⟩ (by simp) rfl _ rfl; clear hA hD
              exact o7s rfl rfl s39 rfl
            · intro a' w' hA hC hD; obtain ⟨u47, s47, r47⟩ := hD ⟨22, .data⟩ (by simp) rfl _ rfl; replace r47 : u47 = undef := r47; subst r47; obtain ⟨u39, s39, rfl⟩ := hD ⟨14, .guard⟩ (by simp) rfl _ rfl; clear hA hD
              exact o7s rfl rfl s39 rfl
            · intro a' w' hA hC hD; obtain ⟨u46, s46, r46⟩ := hD ⟨21, .data⟩ (by simp) rfl _ rfl; replace r46 : u46 = undef := r46; subst r46; obtain ⟨u48, s48, r48⟩ := hD ⟨23, .data⟩ (by simp) rfl _ rfl; replace r48 : u48 = undef := r48; subst r48; obtain ⟨u39, s39, rfl⟩ := hD ⟨14, .chain⟩ (by simp) rfl _ rfl; clear hA hD
              exact o7s rfl rfl s39 rfl
            · intro a' w' hA hC hD; obtain ⟨u49, s49, r49⟩ := hD ⟨24, .data⟩ (by simp) rfl _ rfl; replace r49 : u49 = undef := r49; subst r49; obtain ⟨u39, s39, rfl⟩ := hD ⟨14, .guard⟩ (by simp) rfl _ rfl; clear hA hD
              exact o7s rfl rfl s39 rfl
            · intro a' w' hA hC hD; obtain ⟨u39, s39, rfl⟩ := hD ⟨14, .data⟩ (by simp) rfl _ rfl; obtain ⟨u50, s50, r50⟩ := hD ⟨25, .data⟩ (by simp) rfl _ rfl; replace r50 : u50 = undef := r50; subst r50; obtain ⟨u36, s36, rfl⟩ := hD ⟨11, .guard⟩ (by simp) rfl _ rfl; clear hA hD; refine o7w rfl rfl s36 ?_; intro K hK; gi_wp2; exact hK _ _ rfl (B7 _ _)
            · intro a' w' hA hC hD; obtain ⟨u36, s36, rfl⟩ := hD ⟨11, .data⟩ (by simp) rfl _ rfl; obtain ⟨u51, s51, rfl⟩ := hD ⟨26, .data⟩ (by simp) rfl _ rfl; clear hA hD; refine o7p rfl ?_; intro K hK; gi_wp2; exact hK _ _ rfl (B7 _ _)
           case hend =>
            intro w5 hC
            simp only [EndFrom, eqv, forall_eq, Act.put, List.length_cons, List.length_nil, List.drop_succ_cons, List.drop_zero, Nat.reduceAdd, List.setIfInBounds_toArray, List.set_cons_succ, List.set_cons_zero]
            have HS := H7 (HS.out.below hC)
            clear hC
            obtain ⟨s, hs1, hs2, hs3⟩ := opMay_site HM1.out
            have HQ := H7 (And.intro hs1 hs3)
            have HB := H7 (hasN_bound (k := 0) (HPOS.out s hs3) (vecOk_le HV2.out s hs2 hs3) HN.out)
            obtain ⟨N, hN⟩ : ∃ N, hasN l.base (l.ops.take (0)) = N := ⟨_, rfl⟩
            have HNN := H7 hN
            rw [hN] at HS HB
            clear hs1 hs2 hs3 hN
            gi_wp2
            obtain ⟨q0, q1, q2, -⟩ := opCells (HS.out.blockAt 0 rfl)
            rw [HQ.out.1] at q1
            have c1 := c7b (HS.out.blockAt 1 rfl) (lit9_get N s HQ.out.2)
            have f1 := f7b (HS.out.blockAt 1 rfl)
            have hs9 := HQ.out.2
            have wv : IntKind.u64.wrap (N s + 1) = N s + 1 := by have h := HB.out; unfold MaxT at h; rw [IntKind.wrap_u64]; omega
            repeat ((fail_if_success (with_reducible refine stop_at (id := 10) ?_)); (first | go_values | go_skip | go_guarded | go_step | go_upon | go_back | (simp only [Int.not_lt, Int.not_le] at *; go_simp) | (go_values <;> (try go_simp)) | (go_ite <;> go_prune <;> (try go_simp)) | (split <;> (first | (rename_i hx; exact (hx _ rfl).elim) | go_prune))))
            clear q0 q1 q2 c1 f1
            have hs := HS.out.putAt (pre := [_]) (c' := lit9 (upd N s (N s + 1))) (by intro i hi; simp at hi; subst hi; exact ⟨_, _, rfl⟩) s (.int .u64 (N s + 1)) (lit9_set N s _ HQ.out.2)
            simp only [List.singleton_append] at hs
            obtain ⟨w6, hw6⟩ : ∃ w6, w5.setCell ⟨g, s, none⟩ (.int .u64 (N s + 1)) = w6 := ⟨_, rfl⟩
            rw [hw6] at hs ⊢
            have HS := H7 hs
            clear hs hw6 wv hs9
            refine (wpIn_wide (n := 0)).1 ?_
            by_cases hq : o.id.seq = N s + 1
            · have HK9 := H7 (show (o.id.seq != N s + 1) = false from by rw [bne_eq_false_iff_eq]; exact hq)
              have HEQ := H7 hq
              clear hq
              apply w7v 9 (Rl := [(eqv _), (eqv _), (eqv _), (eqv _), (eqv _), (eqv _), (eqv _), (eqv _), (eqv _)]) (C := (fun x y => Below x.heap.size x y))
              case hm => kernel_rfl
              case hk => rfl
              case hCr => exact (fun _ => B7 _ _)
              case hCt => intro _ _ _; exact (fun h k => g7t h k)
              case hst => repeat (first | exact trivial | refine ⟨fun _ _ _ _ h => h, ?_⟩)
              case hfo => kernel_rfl
              case ht => kernel_rfl
              case hC0 => exact (g7d _)
              case hsteps =>
               refine ⟨?_, ?_, ?_, ?_, ?_, ?_, ?_, ?_, ?_, trivial⟩
               · intro a' w' hA hC hD; have s5 := hA.to 5 (by kernel_rfl) rfl; clear hA hD; refine o7p rfl ?_; intro K hK; gi_wp2; exact hK _ _ rfl (B7 _ _)
               · intro a' w' hA hC hD; obtain ⟨u60, s60, rfl⟩ := hD ⟨0, .data⟩ (by simp) rfl _ rfl; clear hA hD; refine o7p rfl ?_; intro K hK; gi_wp2; exact hK _ _ rfl (B7 _ _)
               · intro a' w' hA hC hD; obtain ⟨u61, s61, rfl⟩ := hD ⟨1, .data⟩ (by simp) rfl _ rfl
                 obtain ⟨q0, q1, q2, -⟩ := opCells ((HS.out.below hC).blockAt 0 rfl)
                 clear hA hD; refine o7p rfl ?_; intro K hK; gi_wp2; exact hK _ _ rfl (B7 _ _)
               · intro a' w' hA hC hD; have s5 := hA.to 5 (by kernel_rfl) rfl; clear hA hD; refine o7p rfl ?_; intro K hK; gi_wp2; exact hK _ _ rfl (B7 _ _)
               · intro a' w' hA hC hD; obtain ⟨u63, s63, rfl⟩ := hD ⟨3, .data⟩ (by simp) rfl _ rfl; clear hA hD; refine o7p rfl ?_; intro K hK; gi_wp2; exact hK _ _ rfl (B7 _ _)
               · intro a' w' hA hC hD; obtain ⟨u64, s64, rfl⟩ := hD ⟨4, .data⟩ (by simp) rfl _ rfl
                 obtain ⟨q0, q1, q2, -⟩ := opCells ((HS.out.below hC).blockAt 0 rfl); rw [HQ.out.1] at q1
                 clear hA hD; refine o7p rfl ?_; intro K hK; gi_wp2; exact hK _ _ rfl (B7 _ _)
               · intro a' w' hA hC hD; have s3 := hA.to 3 (by kernel_rfl) rfl; obtain ⟨u65, s65, rfl⟩ := hD ⟨5, .data⟩ (by simp) rfl _ rfl
                 have hs9 := HQ.out.2
                 clear hA hD; refine o7p rfl ?_; intro K hK; gi_wp2; exact hK _ _ rfl (B7 _ _)
               · intro a' w' hA hC hD; obtain ⟨u66, s66, rfl⟩ := hD ⟨6, .data⟩ (by simp) rfl _ rfl
                 have c1 := c7b ((HS.out.below hC).blockAt 1 rfl) (lit9_get (upd N s (N s + 1)) s HQ.out.2); rw [show upd N s (N s + 1) s = N s + 1 from if_pos rfl] at c1
                 clear hA hD; refine o7p rfl ?_; intro K hK; gi_wp2; exact hK _ _ rfl (B7 _ _)
               · intro a' w' hA hC hD; obtain ⟨u62, s62, rfl⟩ := hD ⟨2, .data⟩ (by simp) rfl _ rfl; obtain ⟨u67, s67, rfl⟩ := hD ⟨7, .data⟩ (by simp) rfl _ rfl; clear hA hD; refine o7p rfl ?_; intro K hK; gi_wp2; rw [HK9.out]; exact hK _ _ rfl (B7 _ _)
              case hend =>
               intro w7 hC
               simp only [EndFrom, eqv, forall_eq, Act.put, List.length_cons, List.length_nil, List.drop_succ_cons, List.drop_zero, Nat.reduceAdd, List.setIfInBounds_toArray, List.set_cons_succ, List.set_cons_zero]
               have HS := H7 (HS.out.below hC)
               clear hC
               have HLG := H7 (show lgAt l.folded l.base l.ops (0) (o, Value.slice pa o.px.length pc) = true by
                unfold lgAt
                rw [show hasN l.base (l.ops.take (0)) (o, Value.slice pa o.px.length pc).1.id.site.toNat = N s by rw [HNN.out, show (o, Value.slice pa o.px.length pc).1.id.site.toNat = s by have h := HQ.out.1; dsimp only; omega], show decide ((o, Value.slice pa o.px.length pc).1.id.seq = N s + 1) = true from decide_eq_true HEQ.out, show opMayB (o, Value.slice pa o.px.length pc).1 = true from HM1.out, show decide (l.folded < (o, Value.slice pa o.px.length pc).1.id.time) = true from decide_eq_true (by have h := of_decide_eq_false HK1.out; dsimp only; omega), Bool.and_true, Bool.true_and, Bool.true_and]
                exact (by simp))
               have HL9 := H7 (show lit9 (hasN l.base (l.ops.take (0 + 1))) = lit9 (upd N s (N s + 1)) by
                rw [take_next HX.out, hasN_snoc _ _ _ (by have h := HQ.out.1; dsimp only; omega), HNN.out, show (o, Value.slice pa o.px.length pc).1.id.site.toNat = s by have h := HQ.out.1; dsimp only; omega])
               skip
               gi_wp2
               go_wp2_with fail
               go_roundw
               case rel => exact ⟨0 + 1, HLT.out, by first | (simp; done) | (simp; exact wk2), by rw [HL9.out]; exact HS.out.tl, fun i x hi hik => by rcases Nat.lt_or_eq_of_le (Nat.lt_succ_iff.1 hik) with h | rfl; exact HA.out i x hi h; rw [HX.out] at hi; cases hi; exact HLG.out⟩
               case measure => exact lgM HLT.out (by first | omega | exact wk2.trans (by omega) | decide)
            · have HK9 := H7 (show (o.id.seq != N s + 1) = true from by rw [bne_iff_ne]; exact hq)
              have HEQ := H7 hq
              clear hq
              apply w7v 9 (Rl := [(eqv _), (eqv _), (eqv _), (eqv _), (eqv _), (eqv _), (eqv _), (eqv _), (eqv _)]) (C := (fun x y => Below x.heap.size x y))
              case hm => kernel_rfl
              case hk => rfl
              case hCr => exact (fun _ => B7 _ _)
              case hCt => intro _ _ _; exact (fun h k => g7t h k)
              case hst => repeat (first | exact trivial | refine ⟨fun _ _ _ _ h => h, ?_⟩)
              case hfo => kernel_rfl
              case ht => kernel_rfl
              case hC0 => exact (g7d _)
              case hsteps =>
               refine ⟨?_, ?_, ?_, ?_, ?_, ?_, ?_, ?_, ?_, trivial⟩
               · intro a' w' hA hC hD; have s5 := hA.to 5 (by kernel_rfl) rfl; clear hA hD; refine o7p rfl ?_; intro K hK; gi_wp2; exact hK _ _ rfl (B7 _ _)
               · intro a' w' hA hC hD; obtain ⟨u60, s60, rfl⟩ := hD ⟨0, .data⟩ (by simp) rfl _ rfl; clear hA hD; refine o7p rfl ?_; intro K hK; gi_wp2; exact hK _ _ rfl (B7 _ _)
               · intro a' w' hA hC hD; obtain ⟨u61, s61, rfl⟩ := hD ⟨1, .data⟩ (by simp) rfl _ rfl
                 obtain ⟨q0, q1, q2, -⟩ := opCells ((HS.out.below hC).blockAt 0 rfl)
                 clear hA hD; refine o7p rfl ?_; intro K hK; gi_wp2; exact hK _ _ rfl (B7 _ _)
               · intro a' w' hA hC hD; have s5 := hA.to 5 (by kernel_rfl) rfl; clear hA hD; refine o7p rfl ?_; intro K hK; gi_wp2; exact hK _ _ rfl (B7 _ _)
               · intro a' w' hA hC hD; obtain ⟨u63, s63, rfl⟩ := hD ⟨3, .data⟩ (by simp) rfl _ rfl; clear hA hD; refine o7p rfl ?_; intro K hK; gi_wp2; exact hK _ _ rfl (B7 _ _)
               · intro a' w' hA hC hD; obtain ⟨u64, s64, rfl⟩ := hD ⟨4, .data⟩ (by simp) rfl _ rfl
                 obtain ⟨q0, q1, q2, -⟩ := opCells ((HS.out.below hC).blockAt 0 rfl); rw [HQ.out.1] at q1
                 clear hA hD; refine o7p rfl ?_; intro K hK; gi_wp2; exact hK _ _ rfl (B7 _ _)
               · intro a' w' hA hC hD; have s3 := hA.to 3 (by kernel_rfl) rfl; obtain ⟨u65, s65, rfl⟩ := hD ⟨5, .data⟩ (by simp) rfl _ rfl
                 have hs9 := HQ.out.2
                 clear hA hD; refine o7p rfl ?_; intro K hK; gi_wp2; exact hK _ _ rfl (B7 _ _)
               · intro a' w' hA hC hD; obtain ⟨u66, s66, rfl⟩ := hD ⟨6, .data⟩ (by simp) rfl _ rfl
                 have c1 := c7b ((HS.out.below hC).blockAt 1 rfl) (lit9_get (upd N s (N s + 1)) s HQ.out.2); rw [show upd N s (N s + 1) s = N s + 1 from if_pos rfl] at c1
                 clear hA hD; refine o7p rfl ?_; intro K hK; gi_wp2; exact hK _ _ rfl (B7 _ _)
               · intro a' w' hA hC hD; obtain ⟨u62, s62, rfl⟩ := hD ⟨2, .data⟩ (by simp) rfl _ rfl; obtain ⟨u67, s67, rfl⟩ := hD ⟨7, .data⟩ (by simp) rfl _ rfl; clear hA hD; refine o7p rfl ?_; intro K hK; gi_wp2; rw [HK9.out]; exact hK _ _ rfl (B7 _ _)
              case hend =>
               intro w7 hC
               simp only [EndFrom, eqv, forall_eq, Act.put, List.length_cons, List.length_nil, List.drop_succ_cons, List.drop_zero, Nat.reduceAdd, List.setIfInBounds_toArray, List.set_cons_succ, List.set_cons_zero]
               have HS := H7 (HS.out.below hC)
               clear hC
               gi_wp2
               go_wp2_with fail
               have hE := HE.out
               rw [lgAts_no HX.out (by unfold lgAt; rw [show hasN l.base (l.ops.take (0)) (o, Value.slice pa o.px.length pc).1.id.site.toNat = N s by rw [HNN.out, show (o, Value.slice pa o.px.length pc).1.id.site.toNat = s by have h := HQ.out.1; dsimp only; omega], show decide ((o, Value.slice pa o.px.length pc).1.id.seq = N s + 1) = false from decide_eq_false HEQ.out, Bool.and_false])] at hE
               rw [show E = 240 from hE.symm]
               go_ret
               exact ⟨rfl, HS.out.low⟩
          | succ j =>
           have HK3 := H7 (show wrap64 (j : Int) = (j : Int) by have h1 := HN.out; have h2 := HLT.out; unfold wrap64; omega)
           obtain ⟨⟨y, yv⟩, hy⟩ : ∃ y, l.ops[j]? = some y := ⟨_, List.getElem?_eq_getElem (by have := HLT.out; omega)⟩
           have HYC := H7 (show ∀ w', Below w.heap.size w w' → w'.cell? ⟨b, off + j * 19, none⟩ = some (.int .u64 y.id.time) ∧ w'.cell? ⟨b, off + j * 19 + 1, none⟩ = some (.int .i64 y.id.site) ∧ w'.cell? ⟨b, off + j * 19 + 2, none⟩ = some (.int .u64 y.id.seq) from fun w' hb => by
            have hr := (HO.out w' hb).rng hy
            exact ⟨hr 0 _ rfl, hr 1 _ rfl, hr 2 _ rfl⟩)
           have HLS := H7 (fun w' => identLess_any y.id o.id w')
           have HY := H7 hy
           clear hy
           obtain ⟨t, ht⟩ : ∃ t, decide (cmpId y.id o.id < 0) = t := ⟨_, rfl⟩
           rw [ht] at HLS
           unfold IdT.val at HLS
           have HT := H7 ht
           clear ht
           repeat ((fail_if_success (with_reducible refine stop_at (id := 7) ?_)); (first | go_values | go_skip | go_guarded | go_step | go_upon | go_back | (simp only [Int.not_lt, Int.not_le] at *; go_simp) | (go_values <;> (try go_simp)) | (go_ite <;> go_prune <;> (try go_simp)) | (split <;> (first | (rename_i hx; exact (hx _ rfl).elim) | go_prune))))
           refine (wpIn_wide (n := 0)).1 ?_
           apply w7v 28 (Rl := [(eqv _), (eqv _), (eqv _), (eqv _), (eqv _), (eqv _), (eqv _), (eqv _), (eqv _), (eqv _), (eqv _), (eqv _), (eqv _), (eqv _), (eqv _), (eqv _), (eqv _), (eqv _), (eqv _), (eqv _), (eqv _), (eqv _), (eqv _), (eqv _), (eqv _), (eqv _), (eqv _), (eqv _)]) (C := (fun x y => Below x.heap.size x y))
           case hm => kernel_rfl
           case hk => rfl
           case hCr => exact (fun _ => B7 _ _)
           case hCt => intro _ _ _; exact (fun h k => g7t h k)
           case hst => repeat (first | exact trivial | refine ⟨fun _ _ _ _ h => h, ?_⟩)
           case hfo => kernel_rfl
           case ht => kernel_rfl
           case hC0 => exact (g7d _)
           case hsteps =>
            refine ⟨?_, ?_, ?_, ?_, ?_, ?_, ?_, ?_, ?_, ?_, ?_, ?_, ?_, ?_, ?_, ?_, ?_, ?_, ?_, ?_, ?_, ?_, ?_, ?_, ?_, ?_, ?_, ?_, trivial⟩
            · intro a' w' hA hC hD; have s5 := hA.to 5 (by kernel_rfl) rfl; clear hA hD; refine o7p rfl ?_; intro K hK
              refine opIn_load 51 _ rfl h (by simp [Act.eval, s5]) 51 _ (0, 0) _ ((HS.out.below hC).blockAt 0 rfl) Tryz.underlying51 rfl (by kernel_rfl) (hK _ _ rfl (B7 _ _))
            · intro a' w' hA hC hD; obtain ⟨u25, s25, rfl⟩ := hD ⟨0, .data⟩ (by simp) rfl _ rfl; clear hA hD; refine o7p rfl ?_; intro K hK
              gi_wp2_with fail; refine (callsIn_wide.2 (HMB.out _ (HS.out.below hC).low)).mono ?_; rintro e w2 ⟨rfl, hb⟩; exact hK _ _ rfl hb
            · intro a' w' hA hC hD; obtain ⟨u26, s26, rfl⟩ := hD ⟨1, .data⟩ (by simp) rfl _ rfl; clear hA hD; refine o7p rfl ?_; intro K hK; gi_wp2; exact hK _ _ rfl (B7 _ _)
            · intro a' w' hA hC hD; obtain ⟨u27, s27, rfl⟩ := hD ⟨2, .data⟩ (by simp) rfl _ rfl; clear hA hD; refine o7p rfl ?_; intro K hK; gi_wp2; exact hK _ _ rfl (B7 _ _)
            · intro a' w' hA hC hD; have s5 := hA.to 5 (by kernel_rfl) rfl; obtain ⟨u28, s28, rfl⟩ := hD ⟨3, .guard⟩ (by simp) rfl _ rfl; clear hA hD; refine o7w rfl rfl s28 ?_; intro K hK; gi_wp2; exact hK _ _ rfl (B7 _ _)
            · intro a' w' hA hC hD; obtain ⟨u29, s29, rfl⟩ := hD ⟨4, .data⟩ (by simp) rfl _ rfl; obtain ⟨u28, s28, rfl⟩ := hD ⟨3, .guard⟩ (by simp) rfl _ rfl; clear hA hD; refine o7w rfl rfl s28 ?_; intro K hK; gi_wp2; exact hK _ _ rfl (B7 _ _)
            · intro a' w' hA hC hD; obtain ⟨u30, s30, rfl⟩ := hD ⟨5, .data⟩ (by simp) rfl _ rfl; obtain ⟨u28, s28, rfl⟩ := hD ⟨3, .guard⟩ (by simp) rfl _ rfl
              obtain ⟨q0, q1, q2, -⟩ := opCells ((HS.out.below hC).blockAt 0 rfl)
              clear hA hD; refine o7w rfl rfl s28 ?_; intro K hK; gi_wp2; exact hK _ _ rfl (B7 _ _)
            · intro a' w' hA hC hD; have s1 := hA.to 1 (by kernel_rfl) rfl; obtain ⟨u28, s28, rfl⟩ := hD ⟨3, .guard⟩ (by simp) rfl _ rfl; clear hA hD; refine o7w rfl rfl s28 ?_; intro K hK; gi_wp2; exact hK _ _ rfl (B7 _ _)
            · intro a' w' hA hC hD; obtain ⟨u32, s32, rfl⟩ := hD ⟨7, .data⟩ (by simp) rfl _ rfl; obtain ⟨u28, s28, rfl⟩ := hD ⟨3, .guard⟩ (by simp) rfl _ rfl
              obtain ⟨z0, -⟩ := logCells ((HS.out.below hC).blockAt 2 rfl)
              clear hA hD; refine o7w rfl rfl s28 ?_; intro K hK; gi_wp2; exact hK _ _ rfl (B7 _ _)
            · intro a' w' hA hC hD; obtain ⟨u31, s31, rfl⟩ := hD ⟨6, .data⟩ (by simp) rfl _ rfl; obtain ⟨u33, s33, rfl⟩ := hD ⟨8, .data⟩ (by simp) rfl _ rfl; obtain ⟨u28, s28, rfl⟩ := hD ⟨3, .guard⟩ (by simp) rfl _ rfl; clear hA hD; refine o7w rfl rfl s28 ?_; intro K hK; gi_wp2; rw [HK1.out]; exact hK _ _ rfl (B7 _ _)
            · intro a' w' hA hC hD; obtain ⟨u28, s28, rfl⟩ := hD ⟨3, .data⟩ (by simp) rfl _ rfl; obtain ⟨u34, s34, rfl⟩ := hD ⟨9, .data⟩ (by simp) rfl _ rfl; clear hA hD; refine o7p rfl ?_; intro K hK; gi_wp2; exact hK _ _ rfl (B7 _ _)
            · intro a' w' hA hC hD; obtain ⟨u35, s35, rfl⟩ := hD ⟨10, .data⟩ (by simp) rfl _ rfl; clear hA hD; refine o7p rfl ?_; intro K hK; gi_wp2; exact hK _ _ rfl (B7 _ _)
            · intro a' w' hA hC hD; have s4 := hA.to 4 (by kernel_rfl) rfl; obtain ⟨u36, s36, rfl⟩ := hD ⟨11, .guard⟩ (by simp) rfl _ rfl; clear hA hD; refine o7w rfl rfl s36 ?_; intro K hK; gi_wp2; exact hK _ _ rfl (B7 _ _)
            · intro a' w' hA hC hD; obtain ⟨u37, s37, rfl⟩ := hD ⟨12, .data⟩ (by simp) rfl _ rfl; obtain ⟨u36, s36, rfl⟩ := hD ⟨11, .guard⟩ (by simp) rfl _ rfl; clear hA hD; refine o7w rfl rfl s36 ?_; intro K hK; gi_wp2; exact hK _ _ rfl (B7 _ _)
            · intro a' w' hA hC hD; obtain ⟨u38, s38, rfl⟩ := hD ⟨13, .data⟩ (by simp) rfl _ rfl; obtain ⟨u36, s36, rfl⟩ := hD ⟨11, .chain⟩ (by simp) rfl _ rfl; clear hA hD; refine o7w rfl rfl s36 ?_; intro K hK; gi_wp2; exact hK _ _ rfl (B7 _ _)
            · intro a' w' hA hC hD; have s1 := hA.to 1 (by kernel_rfl) rfl; obtain ⟨u39, s39, rfl⟩ := hD ⟨14, .guard⟩ (by simp) rfl _ rfl; clear hA hD; refine o7w rfl rfl s39 ?_; intro K hK; gi_wp2; exact hK _ _ rfl (B7 _ _)
            · intro a' w' hA hC hD; obtain ⟨u40, s40, rfl⟩ := hD ⟨15, .data⟩ (by simp) rfl _ rfl; obtain ⟨u39, s39, rfl⟩ := hD ⟨14, .guard⟩ (by simp) rfl _ rfl
              obtain ⟨-, -, -, -, -, -, -, -, -, -, z10⟩ := logCells ((HS.out.below hC).blockAt 2 rfl)
              clear hA hD; refine o7w rfl rfl s39 ?_; intro K hK; gi_wp2; exact hK _ _ rfl (B7 _ _)
            · intro a' w' hA hC hD; have s4 := hA.to 4 (by kernel_rfl) rfl; obtain ⟨u39, s39, rfl⟩ := hD ⟨14, .guard⟩ (by simp) rfl _ rfl; clear hA hD; refine o7w rfl rfl s39 ?_; intro K hK; gi_wp2; exact hK _ _ rfl (B7 _ _)
            · intro a' w' hA hC hD; obtain ⟨u42, s42, rfl⟩ := hD ⟨17, .data⟩ (by simp) rfl _ rfl; obtain ⟨u39, s39, rfl⟩ := hD ⟨14, .guard⟩ (by simp) rfl _ rfl; clear hA hD; refine o7w rfl rfl s39 ?_; intro K hK; gi_wp2; rw [HK3.out]; exact hK _ _ rfl (B7 _ _)
            · intro a' w' hA hC hD; obtain ⟨u41, s41, rfl⟩ := hD ⟨16, .data⟩ (by simp) rfl _ rfl; obtain ⟨u43, s43, rfl⟩ := hD ⟨18, .data⟩ (by simp) rfl _ rfl; obtain ⟨u39, s39, rfl⟩ := hD ⟨14, .guard⟩ (by simp) rfl _ rfl
              have hlt : j < l.ops.length := by have h1_ := HLT.out; omega
              clear hA hD; refine o7w rfl rfl s39 ?_; intro K hK; gi_wp2; exact hK _ _ rfl (B7 _ _)
            · intro a' w' hA hC hD; obtain ⟨u44, s44, rfl⟩ := hD ⟨19, .data⟩ (by simp) rfl _ rfl; obtain ⟨u39, s39, rfl⟩ := hD ⟨14, .guard⟩ (by simp) rfl _ rfl; clear hA hD; refine o7w rfl rfl s39 ?_; intro K hK; gi_wp2; exact hK _ _ rfl (B7 _ _)
            · intro a' w' hA hC hD; obtain ⟨u45, s45, rfl⟩ := hD ⟨20, .data⟩ (by simp) rfl _ rfl; obtain ⟨u39, s39, rfl⟩ := hD ⟨14, .guard⟩ (by simp) rfl _ rfl
              obtain ⟨y0, y1, y2⟩ := HYC.out _ (HS.out.below hC).low
              clear hA hD; refine o7w rfl rfl s39 ?_; intro K hK; gi_wp2; exact hK _ _ rfl (B7 _ _)
            · intro a' w' hA hC hD; have s5 := hA.to 5 (by kernel_rfl) rfl; obtain ⟨u39, s39, rfl⟩ := hD ⟨14, .guard⟩ (by simp) rfl _ rfl; clear hA hD; refine o7w rfl rfl s39 ?_; intro K hK; gi_wp2; exact hK _ _ rfl (B7 _ _)
            · intro a' w' hA hC hD; obtain ⟨u47, s47, rfl⟩ := hD ⟨22, .data⟩ (by simp) rfl _ rfl; obtain ⟨u39, s39, rfl⟩ := hD ⟨14, .guard⟩ (by simp) rfl _ rfl
              obtain ⟨q0, q1, q2, -⟩ := opCells ((HS.out.below hC).blockAt 0 rfl)
              clear hA hD; refine o7w rfl rfl s39 ?_; intro K hK; gi_wp2; exact hK _ _ rfl (B7 _ _)
            · intro a' w' hA hC hD; obtain ⟨u46, s46, rfl⟩ := hD ⟨21, .data⟩ (by simp) rfl _ rfl; obtain ⟨u48, s48, rfl⟩ := hD ⟨23, .data⟩ (by simp) rfl _ rfl; obtain ⟨u39, s39, rfl⟩ := hD ⟨14, .chain⟩ (by simp) rfl _ rfl; clear hA hD; refine o7w rfl rfl s39 ?_; intro K hK
              gi_wp2_with fail; refine (callsIn_wide.2 (HLS.out _)).mono ?_; rintro e w2 ⟨rfl, hb⟩; exact hK _ _ rfl hb
            · intro a' w' hA hC hD; obtain ⟨u49, s49, rfl⟩ := hD ⟨24, .data⟩ (by simp) rfl _ rfl; obtain ⟨u39, s39, rfl⟩ := hD ⟨14, .guard⟩ (by simp) rfl _ rfl; clear hA hD; refine o7w rfl rfl s39 ?_; intro K hK; gi_wp2; exact hK _ _ rfl (B7 _ _)
            · intro a' w' hA hC hD; obtain ⟨u39, s39, rfl⟩ := hD ⟨14, .data⟩ (by simp) rfl _ rfl; obtain ⟨u50, s50, rfl⟩ := hD ⟨25, .data⟩ (by simp) rfl _ rfl; obtain ⟨u36, s36, rfl⟩ := hD ⟨11, .guard⟩ (by simp) rfl _ rfl; clear hA hD; refine o7w rfl rfl s36 ?_; intro K hK; gi_wp2; exact hK _ _ rfl (B7 _ _)
            · intro a' w' hA hC hD; obtain ⟨u36, s36, rfl⟩ := hD ⟨11, .data⟩ (by simp) rfl _ rfl; obtain ⟨u51, s51, rfl⟩ := hD ⟨26, .data⟩ (by simp) rfl _ rfl; clear hA hD; refine o7p rfl ?_; intro K hK; gi_wp2; exact hK _ _ rfl (B7 _ _)
           case hend =>
            intro w5 hC
            simp only [EndFrom, eqv, forall_eq, Act.put, List.length_cons, List.length_nil, List.drop_succ_cons, List.drop_zero, Nat.reduceAdd, List.setIfInBounds_toArray, List.set_cons_succ, List.set_cons_zero]
            have HS := H7 (HS.out.below hC)
            clear hC
            cases t with
            | false =>
             gi_wp2
             go_wp2_with fail
             have hE := HE.out
             rw [lgAts_no HX.out (by unfold lgAt; rw [show (l.ops[j + 1 - 1]?).getD (o, Value.slice pa o.px.length pc) = (y, yv) by rw [Nat.add_sub_cancel, HY.out]; rfl, show decide (cmpId (y, yv).1.id (o, Value.slice pa o.px.length pc).1.id < 0) = false from HT.out]; simp)] at hE
             rw [show E = 240 from hE.symm]
             go_ret
             exact ⟨rfl, HS.out.low⟩
            | true =>
             obtain ⟨s, hs1, hs2, hs3⟩ := opMay_site HM1.out
             have HQ := H7 (And.intro hs1 hs3)
             have HB := H7 (hasN_bound (k := j + 1) (HPOS.out s hs3) (vecOk_le HV2.out s hs2 hs3) HN.out)
             obtain ⟨N, hN⟩ : ∃ N, hasN l.base (l.ops.take (j + 1)) = N := ⟨_, rfl⟩
             have HNN := H7 hN
             rw [hN] at HS HB
             clear hs1 hs2 hs3 hN
             gi_wp2
             obtain ⟨q0, q1, q2, -⟩ := opCells (HS.out.blockAt 0 rfl)
             rw [HQ.out.1] at q1
             have c1 := c7b (HS.out.blockAt 1 rfl) (lit9_get N s HQ.out.2)
             have f1 := f7b (HS.out.blockAt 1 rfl)
             have hs9 := HQ.out.2
             have wv : IntKind.u64.wrap (N s + 1) = N s + 1 := by have h := HB.out; unfold MaxT at h; rw [IntKind.wrap_u64]; omega
             repeat ((fail_if_success (with_reducible refine stop_at (id := 10) ?_)); (first | go_values | go_skip | go_guarded | go_step | go_upon | go_back | (simp only [Int.not_lt, Int.not_le] at *; go_simp) | (go_values <;> (try go_simp)) | (go_ite <;> go_prune <;> (try go_simp)) | (split <;> (first | (rename_i hx; exact (hx _ rfl).elim) | go_prune))))
             clear q0 q1 q2 c1 f1
             have hs := HS.out.putAt (pre := [_]) (c' := lit9 (upd N s (N s + 1))) (by intro i hi; simp at hi; subst hi; exact ⟨_, _, rfl⟩) s (.int .u64 (N s + 1)) (lit9_set N s _ HQ.out.2)
             simp only [List.singleton_append] at hs
             obtain ⟨w6, hw6⟩ : ∃ w6, w5.setCell ⟨g, s, none⟩ (.int .u64 (N s + 1)) = w6 := ⟨_, rfl⟩
             rw [hw6] at hs ⊢
             have HS := H7 hs
             clear hs hw6 wv hs9
             refine (wpIn_wide (n := 0)).1 ?_
             by_cases hq : o.id.seq = N s + 1
             · have HK9 := H7 (show (o.id.seq != N s + 1) = false from by rw [bne_eq_false_iff_eq]; exact hq)
               have HEQ := H7 hq
               clear hq
               apply w7v 9 (Rl := [(eqv _), (eqv _), (eqv _), (eqv _), (eqv _), (eqv _), (eqv _), (eqv _), (eqv _)]) (C := (fun x y => Below x.heap.size x y))
               case hm => kernel_rfl
               case hk => rfl
               case hCr => exact (fun _ => B7 _ _)
               case hCt => intro _ _ _; exact (fun h k => g7t h k)
               case hst => repeat (first | exact trivial | refine ⟨fun _ _ _ _ h => h, ?_⟩)
               case hfo => kernel_rfl
               case ht => kernel_rfl
               case hC0 => exact (g7d _)
               case hsteps =>
                refine ⟨?_, ?_, ?_, ?_, ?_, ?_, ?_, ?_, ?_, trivial⟩
                · intro a' w' hA hC hD; have s5 := hA.to 5 (by kernel_rfl) rfl; clear hA hD; refine o7p rfl ?_; intro K hK; gi_wp2; exact hK _ _ rfl (B7 _ _)
                · intro a' w' hA hC hD; obtain ⟨u60, s60, rfl⟩ := hD ⟨0, .data⟩ (by simp) rfl _ rfl; clear hA hD; refine o7p rfl ?_; intro K hK; gi_wp2; exact hK _ _ rfl (B7 _ _)
                · intro a' w' hA hC hD; obtain ⟨u61, s61, rfl⟩ := hD ⟨1, .data⟩ (by simp) rfl _ rfl
                  obtain ⟨q0, q1, q2, -⟩ := opCells ((HS.out.below hC).blockAt 0 rfl)
                  clear hA hD; refine o7p rfl ?_; intro K hK; gi_wp2; exact hK _ _ rfl (B7 _ _)
                · intro a' w' hA hC hD; have s5 := hA.to 5 (by kernel_rfl) rfl; clear hA hD; refine o7p rfl ?_; intro K hK; gi_wp2; exact hK _ _ rfl (B7 _ _)
                · intro a' w' hA hC hD; obtain ⟨u63, s63, rfl⟩ := hD ⟨3, .data⟩ (by simp) rfl _ rfl; clear hA hD; refine o7p rfl ?_; intro K hK; gi_wp2; exact hK _ _ rfl (B7 _ _)
                · intro a' w' hA hC hD; obtain ⟨u64, s64, rfl⟩ := hD ⟨4, .data⟩ (by simp) rfl _ rfl
                  obtain ⟨q0, q1, q2, -⟩ := opCells ((HS.out.below hC).blockAt 0 rfl); rw [HQ.out.1] at q1
                  clear hA hD; refine o7p rfl ?_; intro K hK; gi_wp2; exact hK _ _ rfl (B7 _ _)
                · intro a' w' hA hC hD; have s3 := hA.to 3 (by kernel_rfl) rfl; obtain ⟨u65, s65, rfl⟩ := hD ⟨5, .data⟩ (by simp) rfl _ rfl
                  have hs9 := HQ.out.2
                  clear hA hD; refine o7p rfl ?_; intro K hK; gi_wp2; exact hK _ _ rfl (B7 _ _)
                · intro a' w' hA hC hD; obtain ⟨u66, s66, rfl⟩ := hD ⟨6, .data⟩ (by simp) rfl _ rfl
                  have c1 := c7b ((HS.out.below hC).blockAt 1 rfl) (lit9_get (upd N s (N s + 1)) s HQ.out.2); rw [show upd N s (N s + 1) s = N s + 1 from if_pos rfl] at c1
                  clear hA hD; refine o7p rfl ?_; intro K hK; gi_wp2; exact hK _ _ rfl (B7 _ _)
                · intro a' w' hA hC hD; obtain ⟨u62, s62, rfl⟩ := hD ⟨2, .data⟩ (by simp) rfl _ rfl; obtain ⟨u67, s67, rfl⟩ := hD ⟨7, .data⟩ (by simp) rfl _ rfl; clear hA hD; refine o7p rfl ?_; intro K hK; gi_wp2; rw [HK9.out]; exact hK _ _ rfl (B7 _ _)
               case hend =>
                intro w7 hC
                simp only [EndFrom, eqv, forall_eq, Act.put, List.length_cons, List.length_nil, List.drop_succ_cons, List.drop_zero, Nat.reduceAdd, List.setIfInBounds_toArray, List.set_cons_succ, List.set_cons_zero]
                have HS := H7 (HS.out.below hC)
                clear hC
                have HLG := H7 (show lgAt l.folded l.base l.ops (j + 1) (o, Value.slice pa o.px.length pc) = true by
                 unfold lgAt
                 rw [show hasN l.base (l.ops.take (j + 1)) (o, Value.slice pa o.px.length pc).1.id.site.toNat = N s by rw [HNN.out, show (o, Value.slice pa o.px.length pc).1.id.site.toNat = s by have h := HQ.out.1; dsimp only; omega], show decide ((o, Value.slice pa o.px.length pc).1.id.seq = N s + 1) = true from decide_eq_true HEQ.out, show opMayB (o, Value.slice pa o.px.length pc).1 = true from HM1.out, show decide (l.folded < (o, Value.slice pa o.px.length pc).1.id.time) = true from decide_eq_true (by have h := of_decide_eq_false HK1.out; dsimp only; omega), Bool.and_true, Bool.true_and, Bool.true_and]
                 exact (by rw [show (l.ops[j + 1 - 1]?).getD (o, Value.slice pa o.px.length pc) = (y, yv) by rw [Nat.add_sub_cancel, HY.out]; rfl]; rw [show decide (cmpId (y, yv).1.id (o, Value.slice pa o.px.length pc).1.id < 0) = true from HT.out, Bool.or_true]))
                have HL9 := H7 (show lit9 (hasN l.base (l.ops.take (j + 1 + 1))) = lit9 (upd N s (N s + 1)) by
                 rw [take_next HX.out, hasN_snoc _ _ _ (by have h := HQ.out.1; dsimp only; omega), HNN.out, show (o, Value.slice pa o.px.length pc).1.id.site.toNat = s by have h := HQ.out.1; dsimp only; omega])
                have wk2 : wrap64 ((j : Int) + 1 + 1) = (j : Int) + 1 + 1 := by have h1 := HN.out; have h2 := HLT.out; unfold wrap64; omega
                gi_wp2
                go_wp2_with fail
                go_roundw
                case rel => exact ⟨j + 1 + 1, HLT.out, by first | (simp; done) | (simp; exact wk2), by rw [HL9.out]; exact HS.out.tl, fun i x hi hik => by rcases Nat.lt_or_eq_of_le (Nat.lt_succ_iff.1 hik) with h | rfl; exact HA.out i x hi h; rw [HX.out] at hi; cases hi; exact HLG.out⟩
                case measure => exact lgM HLT.out (by first | omega | exact wk2.trans (by omega) | decide)
             · have HK9 := H7 (show (o.id.seq != N s + 1) = true from by rw [bne_iff_ne]; exact hq)
               have HEQ := H7 hq
               clear hq
               apply w7v 9 (Rl := [(eqv _), (eqv _), (eqv _), (eqv _), (eqv _), (eqv _), (eqv _), (eqv _), (eqv _)]) (C := (fun x y => Below x.heap.size x y))
               case hm => kernel_rfl
               case hk => rfl
               case hCr => exact (fun _ => B7 _ _)
               case hCt => intro _ _ _; exact (fun h k => g7t h k)
               case hst => repeat (first | exact trivial | refine ⟨fun _ _ _ _ h => h, ?_⟩)
               case hfo => kernel_rfl
               case ht => kernel_rfl
               case hC0 => exact (g7d _)
               case hsteps =>
                refine ⟨?_, ?_, ?_, ?_, ?_, ?_, ?_, ?_, ?_, trivial⟩
                · intro a' w' hA hC hD; have s5 := hA.to 5 (by kernel_rfl) rfl; clear hA hD; refine o7p rfl ?_; intro K hK; gi_wp2; exact hK _ _ rfl (B7 _ _)
                · intro a' w' hA hC hD; obtain ⟨u60, s60, rfl⟩ := hD ⟨0, .data⟩ (by simp) rfl _ rfl; clear hA hD; refine o7p rfl ?_; intro K hK; gi_wp2; exact hK _ _ rfl (B7 _ _)
                · intro a' w' hA hC hD; obtain ⟨u61, s61, rfl⟩ := hD ⟨1, .data⟩ (by simp) rfl _ rfl
                  obtain ⟨q0, q1, q2, -⟩ := opCells ((HS.out.below hC).blockAt 0 rfl)
                  clear hA hD; refine o7p rfl ?_; intro K hK; gi_wp2; exact hK _ _ rfl (B7 _ _)
                · intro a' w' hA hC hD; have s5 := hA.to 5 (by kernel_rfl) rfl; clear hA hD; refine o7p rfl ?_; intro K hK; gi_wp2; exact hK _ _ rfl (B7 _ _)
                · intro a' w' hA hC hD; obtain ⟨u63, s63, rfl⟩ := hD ⟨3, .data⟩ (by simp) rfl _ rfl; clear hA hD; refine o7p rfl ?_; intro K hK; gi_wp2; exact hK _ _ rfl (B7 _ _)
                · intro a' w' hA hC hD; obtain ⟨u64, s64, rfl⟩ := hD ⟨4, .data⟩ (by simp) rfl _ rfl
                  obtain ⟨q0, q1, q2, -⟩ := opCells ((HS.out.below hC).blockAt 0 rfl); rw [HQ.out.1] at q1
                  clear hA hD; refine o7p rfl ?_; intro K hK; gi_wp2; exact hK _ _ rfl (B7 _ _)
                · intro a' w' hA hC hD; have s3 := hA.to 3 (by kernel_rfl) rfl; obtain ⟨u65, s65, rfl⟩ := hD ⟨5, .data⟩ (by simp) rfl _ rfl
                  have hs9 := HQ.out.2
                  clear hA hD; refine o7p rfl ?_; intro K hK; gi_wp2; exact hK _ _ rfl (B7 _ _)
                · intro a' w' hA hC hD; obtain ⟨u66, s66, rfl⟩ := hD ⟨6, .data⟩ (by simp) rfl _ rfl
                  have c1 := c7b ((HS.out.below hC).blockAt 1 rfl) (lit9_get (upd N s (N s + 1)) s HQ.out.2); rw [show upd N s (N s + 1) s = N s + 1 from if_pos rfl] at c1
                  clear hA hD; refine o7p rfl ?_; intro K hK; gi_wp2; exact hK _ _ rfl (B7 _ _)
                · intro a' w' hA hC hD; obtain ⟨u62, s62, rfl⟩ := hD ⟨2, .data⟩ (by simp) rfl _ rfl; obtain ⟨u67, s67, rfl⟩ := hD ⟨7, .data⟩ (by simp) rfl _ rfl; clear hA hD; refine o7p rfl ?_; intro K hK; gi_wp2; rw [HK9.out]; exact hK _ _ rfl (B7 _ _)
               case hend =>
                intro w7 hC
                simp only [EndFrom, eqv, forall_eq, Act.put, List.length_cons, List.length_nil, List.drop_succ_cons, List.drop_zero, Nat.reduceAdd, List.setIfInBounds_toArray, List.set_cons_succ, List.set_cons_zero]
                have HS := H7 (HS.out.below hC)
                clear hC
                gi_wp2
                go_wp2_with fail
                have hE := HE.out
                rw [lgAts_no HX.out (by unfold lgAt; rw [show hasN l.base (l.ops.take (j + 1)) (o, Value.slice pa o.px.length pc).1.id.site.toNat = N s by rw [HNN.out, show (o, Value.slice pa o.px.length pc).1.id.site.toNat = s by have h := HQ.out.1; dsimp only; omega], show decide ((o, Value.slice pa o.px.length pc).1.id.seq = N s + 1) = false from decide_eq_false HEQ.out, Bool.and_false])] at hE
                rw [show E = 240 from hE.symm]
                go_ret
                exact ⟨rfl, HS.out.low⟩
     · obtain rfl : k = l.ops.length := by omega
       have hE := HE.out
       rw [lgAts_yes (fun j x hj => HA.out j x hj (List.getElem?_eq_some_iff.1 hj).1)] at hE
       have HE := H7 (show E = 0 from hE.symm)
       clear hE hk hlt
       go_wp2_with fail
       rw [HE.out]
       go_ret
       exact ⟨rfl, HS.out.low⟩
end Go.Proofs.YteklfmacnnmomaaGreat
