/- Merged texts: FrO FrQ FrR. -/
import Derived.Test.YteklfmacnnmomaaGreatM14
set_option linter.unusedSimpArgs false
set_option linter.unusedVariables false
/- Layer 18: Ready, Fold, Sites, New. -/
namespace Go.Proofs.YteklfmacnnmomaaGreat
open Go.RowKit Go.Shelf
attribute [local go_sem] Oper.semAt_some
def readyB (f : Frt) (S : Nat → Int) : Bool := mayB f S && (waitsL f S).isEmpty
def readyV (f : Frt) (S : Nat → Int) : Nat → Int := if readyB f S = true then askF f else fun _ => 0
theorem rowShape {w w2 : World} {l : List Int} {sv : Value} (h : w2.ownsRow w.heap.size 3 1 sv l.length (l.flatMap encZ)) : ∃ a c, sv = .slice a l.length c := by
 rcases ownsRow_rows encZ_len h with ⟨e, h0⟩ | ⟨b0, off, cap, e, _⟩
 · exact ⟨none, 0, by rw [e, h0]⟩
 · exact ⟨_, _, e⟩
/-- A row of numbers that is held. -/
structure RowH (N n : Nat) (l : List Int) (sv : Value) (w : World) : Prop where
 len : l.length = n
 own : w.ownsRow N 3 1 sv n (l.flatMap encZ)
theorem RowH.below {N n : Nat} {l : List Int} {sv : Value} {w w' : World} (h : RowH N n l sv w) (hb : Below w.heap.size w w') : RowH N n l sv w' := ⟨h.len, ownsRow_below h.own hb⟩
theorem RowH.el {N n : Nat} {l : List Int} {sv : Value} {w : World} (h : RowH N n l sv w) : Elems w sv n 1 (rowC encZ l) := by
 obtain ⟨rfl, h⟩ := h
 exact ownsRow_rows encZ_len h
theorem RowH.shape {N n : Nat} {l : List Int} {sv : Value} {w : World} (h : RowH N n l sv w) : ∃ a c, sv = .slice a n c := by
 rcases h.el with ⟨e, h0⟩ | ⟨b0, off, cap, e, _⟩
 · exact ⟨none, 0, by rw [e, h0]⟩
 · exact ⟨_, _, e⟩
theorem givesRow_mk {N : Nat} {w w2 : World} {l : List Int} {sv : Value} {n : Nat} (h : RowH N n l sv w2) (hN : w.heap.size ≤ N) (hl : Below w.heap.size w w2) : GivesRow 3 1 l.length (l.flatMap encZ) w (.returned sv) w2 := by
 obtain ⟨rfl, h⟩ := h
 exact ⟨_, rfl, ownsRow_mono h hN, hl⟩
theorem built_V0 : Tryz.prog.built 24 [] = some (lit9 fun _ => 0) := by kernel_rfl
set_option maxRecDepth 100000 in
set_option maxHeartbeats 2000000 in
theorem ready_any (f : Frt) (S : Nat → Int) (w : World) : Calls Tryz.prog 24 #[.agg f.cells, vecV S] w (Gives (.tuple #[vecV (readyV f S), .bool (readyB f S)]) w) := by
 have HS := H7 (St.start w)
 have HC := H7 (fun w' => frCheck_any f w')
 have HV := H7 (fun w' => vecCheck_any S w')
 have HW := H7 (fun w' => waits_any f S w')
 obtain ⟨R, hR⟩ : ∃ R, readyB f S = R := ⟨_, rfl⟩
 obtain ⟨V, hVV⟩ : ∃ V, readyV f S = V := ⟨_, rfl⟩
 obtain ⟨x1, h1⟩ : ∃ x, f.okB = x := ⟨_, rfl⟩
 obtain ⟨x2, h2⟩ : ∃ x, vecOk S = x := ⟨_, rfl⟩
 obtain ⟨x3, h3⟩ : ∃ x, (f.prop == 0) = x := ⟨_, rfl⟩
 rw [h1] at HC
 rw [h2] at HV
 have HVV := H7 (show (if R = true then askF f else fun _ => 0) = V from by rw [← hVV, ← hR]; rfl)
 have HR0 := H7 (show (((x1 && x2) && !x3) && (waitsL f S).isEmpty) = R from by rw [← hR, ← h1, ← h2, ← h3]; rfl)
 rw [hR, hVV]
 clear hR hVV h1 h2
 generalize waitsL f S = L at HW HR0
 unfold vecV
 go_enter Tryz.func24, Tryz.ntmps24
 repeat ((fail_if_success (with_reducible refine stop_at (id := 1) ?_)); (first | go_values | go_skip | go_guarded | go_step | go_upon | go_back | (simp only [Int.not_lt, Int.not_le] at *; go_simp) | (go_values <;> (try go_simp)) | (go_ite <;> go_prune <;> (try go_simp)) | (split <;> (first | (rename_i hx; exact (hx _ rfl).elim) | go_prune))))
 rw [show (#[.int .u64 0, .int .u64 0, .int .u64 0, .int .u64 0, .int .u64 0, .int .u64 0, .int .u64 0, .int .u64 0, .int .u64 0] : Array Value) = lit9 (fun _ => 0) from rfl]
 have hs_ := (((HS.out.alloc (.cells f.cells 29)).alloc (.cells (lit9 S) 24)).alloc (.cells (lit9 fun _ => 0) 24))
 obtain ⟨w1, hw_⟩ : ∃ w1 : World, (((w.alloc (.cells f.cells 29)).alloc (.cells (lit9 S) 24)).alloc (.cells (lit9 fun _ => 0) 24)) = w1 := ⟨_, rfl⟩
 rw [hw_] at hs_
 try simp only [World.size_alloc] at hs_
 have HS := H7 hs_
 rw [hw_]
 clear hw_ hs_
 refine (wpIn_wide (n := 0)).1 ?_
 repeat (first | (refine ldF _ rfl rfl (HS.out.blockAt 2 rfl) ?_; simp only [Act.put, List.setIfInBounds_toArray, List.set_cons_succ, List.set_cons_zero]) | (refine ldV _ rfl rfl (HS.out.blockAt 1 rfl) ?_; simp only [Act.put, List.setIfInBounds_toArray, List.set_cons_succ, List.set_cons_zero]) | gi_step)
 refine (callsIn_wide.2 (HC.out _)).mono ?_
 rintro e w2 ⟨rfl, hb_⟩
 have HS := H7 (HS.out.below hb_)
 clear hb_
 cases x1 with
 | false =>
  rw [show errOf false 280 = 280 from rfl]
  gi_wp2_with (exfalso; exact undefB (by assumption))
  have HN := H7 (show R = false from HR0.out.symm)
  repeat ((fail_if_success (with_reducible refine stop_at (id := 2) ?_)); (first | go_values | go_skip | go_guarded | go_step | go_upon | go_back | (simp only [Int.not_lt, Int.not_le] at *; go_simp) | (go_values <;> (try go_simp)) | (go_ite <;> go_prune <;> (try go_simp)) | (split <;> (first | (rename_i hx; exact (hx _ rfl).elim) | go_prune))))
  refine (wpIn_wide (n := 0)).1 ?_
  repeat (first | (refine opIn_build 24 _ rfl (lit9 fun _ => 0) (by simpa using built_V0) ?_; simp only [Act.put, List.setIfInBounds_toArray, List.set_cons_succ, List.set_cons_zero]) | (refine stV _ _ rfl rfl (HS.out.blockAt 0 rfl) rfl rfl ?_; simp only [Act.put, List.setIfInBounds_toArray, List.set_cons_succ, List.set_cons_zero]) | gi_step)
  gi_wp2_with fail
  have hs := HS.out.putRow (c' := lit9 fun _ => 0) (pre := []) (by intro i hi; cases hi)
  simp only [List.nil_append] at hs
  have HS := H7 hs
  clear hs
  go_wp2_with fail
  refine bodyPost_ret (resVt rfl rfl rfl (HS.out.blockAt 0 rfl)) rfl ⟨by rw [← HVV.out, HN.out]; rfl, HS.out.low⟩
 | true =>
  rw [show errOf true 280 = 0 from rfl]
  simp only []; go_at_K
  repeat (first | (refine ldF _ rfl rfl (HS.out.blockAt 2 rfl) ?_; simp only [Act.put, List.setIfInBounds_toArray, List.set_cons_succ, List.set_cons_zero]) | (refine ldV _ rfl rfl (HS.out.blockAt 1 rfl) ?_; simp only [Act.put, List.setIfInBounds_toArray, List.set_cons_succ, List.set_cons_zero]) | gi_step)
  refine (callsIn_wide.2 (HV.out _)).mono ?_
  rintro e w3 ⟨rfl, hb_⟩
  have HS := H7 (HS.out.below hb_)
  clear hb_
  cases x2 with
  | false =>
   rw [show errOf false 230 = 230 from rfl]
   gi_wp2_with (exfalso; exact undefB (by assumption))
   have HN := H7 (show R = false from HR0.out.symm)
   repeat ((fail_if_success (with_reducible refine stop_at (id := 2) ?_)); (first | go_values | go_skip | go_guarded | go_step | go_upon | go_back | (simp only [Int.not_lt, Int.not_le] at *; go_simp) | (go_values <;> (try go_simp)) | (go_ite <;> go_prune <;> (try go_simp)) | (split <;> (first | (rename_i hx; exact (hx _ rfl).elim) | go_prune))))
   refine (wpIn_wide (n := 0)).1 ?_
   repeat (first | (refine opIn_build 24 _ rfl (lit9 fun _ => 0) (by simpa using built_V0) ?_; simp only [Act.put, List.setIfInBounds_toArray, List.set_cons_succ, List.set_cons_zero]) | (refine stV _ _ rfl rfl (HS.out.blockAt 0 rfl) rfl rfl ?_; simp only [Act.put, List.setIfInBounds_toArray, List.set_cons_succ, List.set_cons_zero]) | gi_step)
   gi_wp2_with fail
   have hs := HS.out.putRow (c' := lit9 fun _ => 0) (pre := []) (by intro i hi; cases hi)
   simp only [List.nil_append] at hs
   have HS := H7 hs
   clear hs
   go_wp2_with fail
   refine bodyPost_ret (resVt rfl rfl rfl (HS.out.blockAt 0 rfl)) rfl ⟨by rw [← HVV.out, HN.out]; rfl, HS.out.low⟩
  | true =>
   rw [show errOf true 230 = 0 from rfl]
   have q := Frt.propC (HS.out.blockAt 2 rfl)
   cases x3 with
   | true =>
    gi_wp2_with (exfalso; exact undefB (by assumption))
    clear q
    have HN := H7 (show R = false from HR0.out.symm)
    repeat ((fail_if_success (with_reducible refine stop_at (id := 2) ?_)); (first | go_values | go_skip | go_guarded | go_step | go_upon | go_back | (simp only [Int.not_lt, Int.not_le] at *; go_simp) | (go_values <;> (try go_simp)) | (go_ite <;> go_prune <;> (try go_simp)) | (split <;> (first | (rename_i hx; exact (hx _ rfl).elim) | go_prune))))
    refine (wpIn_wide (n := 0)).1 ?_
    repeat (first | (refine opIn_build 24 _ rfl (lit9 fun _ => 0) (by simpa using built_V0) ?_; simp only [Act.put, List.setIfInBounds_toArray, List.set_cons_succ, List.set_cons_zero]) | (refine stV _ _ rfl rfl (HS.out.blockAt 0 rfl) rfl rfl ?_; simp only [Act.put, List.setIfInBounds_toArray, List.set_cons_succ, List.set_cons_zero]) | gi_step)
    gi_wp2_with fail
    have hs := HS.out.putRow (c' := lit9 fun _ => 0) (pre := []) (by intro i hi; cases hi)
    simp only [List.nil_append] at hs
    have HS := H7 hs
    clear hs
    go_wp2_with fail
    refine bodyPost_ret (resVt rfl rfl rfl (HS.out.blockAt 0 rfl)) rfl ⟨by rw [← HVV.out, HN.out]; rfl, HS.out.low⟩
   | false =>
    simp only []; go_at_K
    repeat (first | (refine ldF _ rfl rfl (HS.out.blockAt 2 rfl) ?_; simp only [Act.put, List.setIfInBounds_toArray, List.set_cons_succ, List.set_cons_zero]) | (refine ldV _ rfl rfl (HS.out.blockAt 1 rfl) ?_; simp only [Act.put, List.setIfInBounds_toArray, List.set_cons_succ, List.set_cons_zero]) | gi_step)
    clear q h3 HC HV
    refine (callsIn_wide.2 (HW.out _)).mono ?_
    rintro e w4 ⟨sv, rfl, hrow, hb_⟩
    have HS := H7 (HS.out.below hb_)
    clear hb_
    obtain ⟨a, c, rfl⟩ := rowShape hrow
    clear hrow HW
    cases L with
    | nil =>
     have HN := H7 (show R = true from HR0.out.symm)
     simp only [List.length_nil]
     gi_wp2_with (exfalso; exact undefB (by assumption))
     repeat ((fail_if_success (with_reducible refine stop_at (id := 3) ?_)); (first | go_values | go_skip | go_guarded | go_step | go_upon | go_back | (simp only [Int.not_lt, Int.not_le] at *; go_simp) | (go_values <;> (try go_simp)) | (go_ite <;> go_prune <;> (try go_simp)) | (split <;> (first | (rename_i hx; exact (hx _ rfl).elim) | go_prune))))
     refine (wpIn_wide (n := 0)).1 ?_
     repeat (first | (refine ldF _ rfl rfl (HS.out.blockAt 2 rfl) ?_; simp only [Act.put, List.setIfInBounds_toArray, List.set_cons_succ, List.set_cons_zero]) | gi_step)
     refine (callsIn_wide.2 (asked_any f _)).mono ?_
     rintro e w5 ⟨rfl, hb_⟩
     have HS := H7 (HS.out.below hb_)
     clear hb_
     unfold vecV
     simp only []; go_at_K
     repeat (first | (refine stV _ _ rfl rfl (HS.out.blockAt 0 rfl) rfl rfl ?_; simp only [Act.put, List.setIfInBounds_toArray, List.set_cons_succ, List.set_cons_zero]) | gi_step)
     gi_wp2_with fail
     have hs := HS.out.putRow (c' := lit9 (askF f)) (pre := []) (by intro i hi; cases hi)
     simp only [List.nil_append] at hs
     have HS := H7 hs
     clear hs
     go_wp2_with fail
     refine bodyPost_ret (resVt rfl rfl rfl (HS.out.blockAt 0 rfl)) rfl ⟨by rw [← HVV.out, HN.out]; rfl, HS.out.low⟩
    | cons y L =>
     have HN := H7 (show R = false from HR0.out.symm)
     have hlen : 0 < (y :: L).length := by simp
     generalize (y :: L).length = n at hlen ⊢
     gi_wp2_with (exfalso; exact undefB (by assumption))
     clear hlen
     repeat ((fail_if_success (with_reducible refine stop_at (id := 2) ?_)); (first | go_values | go_skip | go_guarded | go_step | go_upon | go_back | (simp only [Int.not_lt, Int.not_le] at *; go_simp) | (go_values <;> (try go_simp)) | (go_ite <;> go_prune <;> (try go_simp)) | (split <;> (first | (rename_i hx; exact (hx _ rfl).elim) | go_prune))))
     refine (wpIn_wide (n := 0)).1 ?_
     repeat (first | (refine opIn_build 24 _ rfl (lit9 fun _ => 0) (by simpa using built_V0) ?_; simp only [Act.put, List.setIfInBounds_toArray, List.set_cons_succ, List.set_cons_zero]) | (refine stV _ _ rfl rfl (HS.out.blockAt 0 rfl) rfl rfl ?_; simp only [Act.put, List.setIfInBounds_toArray, List.set_cons_succ, List.set_cons_zero]) | gi_step)
     gi_wp2_with fail
     have hs := HS.out.putRow (c' := lit9 fun _ => 0) (pre := []) (by intro i hi; cases hi)
     simp only [List.nil_append] at hs
     have HS := H7 hs
     clear hs
     go_wp2_with fail
     refine bodyPost_ret (resVt rfl rfl rfl (HS.out.blockAt 0 rfl)) rfl ⟨by rw [← HVV.out, HN.out]; rfl, HS.out.low⟩
/-- A frontier folded. -/
def foldF (f : Frt) : Frt := ⟨f.prop, askF f, 0, f.site⟩
def foldE (f : Frt) (S : Nat → Int) : Int := if vecOk S = false then 2 else if readyB f S = false then 4 else 0
/-- Block b is turned at most from A to B. -/
structure TurnC (b : Nat) (A B : Obj) (x y : World) : Prop where
 t : Turned (fun j => j = b) x y
 e : x.heap[b]? = some A ∨ x.heap[b]? = some B → y.heap[b]? = some A ∨ y.heap[b]? = some B
 f : x.heap[b]? = some B → y.heap[b]? = some B
theorem TurnC.refl (b : Nat) (A B : Obj) (x : World) : TurnC b A B x x := ⟨Turned.refl _ _, id, id⟩
theorem TurnC.trans {b : Nat} {A B : Obj} {x y z : World} (h : TurnC b A B x y) (k : TurnC b A B y z) : TurnC b A B x z := ⟨h.t.two k.t, k.e ∘ h.e, k.f ∘ h.f⟩
theorem TurnC.grow {b : Nat} {A B : Obj} {x y : World} (h : Below x.heap.size x y) (hb : b < x.heap.size) : TurnC b A B x y := ⟨Turned.ofBelow _ h, fun k => by rw [h.block b hb]; exact k, fun k => by rw [h.block b hb]; exact k⟩
def folded1 (f : Frt) : Frt := { f with folded := f.prop }
set_option maxRecDepth 100000 in
set_option maxHeartbeats 400000 in
theorem fold1_any (f : Frt) (S : Nat → Int) (b c : Nat) (w : World) (hb : w.heap[b]? = some (.cells f.cells 85 (0, 0))) (hc : w.heap[c]? = some (.cells (lit9 S) 24 (0, 0))) :
 Calls Tryz.prog 55 #[.pointer (some ⟨b, 0, none⟩), .pointer (some ⟨c, 0, none⟩)] w (EndsF b (foldF f) (foldE f S) w) := by
 have HB := H7 (BlkA.mk hb)
 have HC := H7 (BlkA.mk hc)
 have HV := H7 (fun w' => vecCheck_any S w')
 have HR := H7 (fun w' => ready_any f S w')
 have HLB := H7 (b7t hb)
 obtain ⟨E, hE⟩ : ∃ E, foldE f S = E := ⟨_, rfl⟩
 obtain ⟨x2, h2⟩ : ∃ x, vecOk S = x := ⟨_, rfl⟩
 obtain ⟨r, hr⟩ : ∃ r, readyB f S = r := ⟨_, rfl⟩
 rw [hE]
 rw [h2] at HV
 unfold foldE at hE
 rw [h2, hr] at hE
 have hrv : readyV f S = if r = true then askF f else fun _ => 0 := by unfold readyV; rw [hr]
 obtain ⟨A, hA⟩ : ∃ A, readyV f S = A := ⟨_, rfl⟩
 rw [hA] at hrv
 have HAV := H7 hrv
 rw [hr, hA] at HR
 rw [show vecV A = .agg #[.int .u64 (A 0), .int .u64 (A 1), .int .u64 (A 2), .int .u64 (A 3), .int .u64 (A 4), .int .u64 (A 5), .int .u64 (A 6), .int .u64 (A 7), .int .u64 (A 8)] from rfl] at HR
 clear hb hc h2 hr hA hrv
 go_enter Tryz.func55, Tryz.ntmps55
 repeat ((fail_if_success (with_reducible refine stop_at (id := 0) ?_)); (first | go_values | go_skip | go_guarded | go_step | go_upon | go_back | (simp only [Int.not_lt, Int.not_le] at *; go_simp) | (go_values <;> (try go_simp)) | (go_ite <;> go_prune <;> (try go_simp)) | (split <;> (first | (rename_i hx; exact (hx _ rfl).elim) | go_prune))))
 refine (wpIn_wide (n := 0)).1 ?_
 repeat (first | (refine ldV _ rfl rfl HC.out.at_ ?_; simp only [Act.put, List.setIfInBounds_toArray, List.set_cons_succ, List.set_cons_zero]) | gi_step)
 refine (callsIn_wide.2 (HV.out _)).mono ?_
 rintro e w2 ⟨rfl, hb_⟩
 have HT := H7 (Turned.ofBelow (fun j => j = b) hb_)
 have HB := H7 (HB.out.below hb_)
 have HC := H7 (HC.out.below hb_)
 clear hb_
 have HBS := H7 (b7t HB.out.at_)
 cases x2 with
 | false =>
  subst hE
  rw [show errOf false 230 = 230 from rfl]
  gi_wp2_with (gi_at_call 41; refine (callsIn_wide.2 (frNeed_no _ _)).mono ?_; rintro e w' ⟨rfl, rfl⟩)
  exact ⟨rfl, HT.out, fun h => absurd h (by decide), fun _ => rfl⟩
 | true =>
  rw [show errOf true 230 = 0 from rfl]
  gi_wp2_with (gi_at_call 41; refine (callsIn_wide.2 (frNeed_ok _ _)).mono ?_; rintro e w' ⟨rfl, rfl⟩)
  repeat ((fail_if_success (with_reducible refine stop_at (id := 1) ?_)); (first | go_values | go_skip | go_guarded | go_step | go_upon | go_back | (simp only [Int.not_lt, Int.not_le] at *; go_simp) | (go_values <;> (try go_simp)) | (go_ite <;> go_prune <;> (try go_simp)) | (split <;> (first | (rename_i hx; exact (hx _ rfl).elim) | go_prune))))
  refine (wpIn_wide (n := 0)).1 ?_
  apply wp_region_slots 12 [⟨9, 10, 3, .cells #[.int .u64 0, .int .u64 0, .int .u64 0, .int .u64 0, .int .u64 0, .int .u64 0, .int .u64 0, .int .u64 0, .int .u64 0] 24 (0, 0), .cells #[.int .u64 (A 0), .int .u64 (A 1), .int .u64 (A 2), .int .u64 (A 3), .int .u64 (A 4), .int .u64 (A 5), .int .u64 (A 6), .int .u64 (A 7), .int .u64 (A 8)] 24 (0, 0)⟩] _ (Rl := [(eqv _), (eqv _), (eqv _), (eqv _), (eqv _), (eqv _), (eqv _), (eqv _), (eqv _), (fun _ _ => True), (fun _ _ => True), (eqv _)])
  case hm => kernel_rfl
  case hk => rfl
  case hst => repeat (first | exact trivial | refine ⟨fun _ _ _ _ h => h, ?_⟩)
  case hfo => kernel_rfl
  case ht => kernel_rfl
  case hN => exact Nat.le_refl _
  case hok => kernel_rfl
  case hsk => intro s hs; simp only [List.mem_cons, List.not_mem_nil, or_false] at hs; rcases hs with rfl <;> exact ⟨Nat.le_of_ble_eq_true rfl, Nat.le_of_ble_eq_true rfl⟩
  case hsteps =>
   refine ⟨?_, ?_, ?_, ?_, ?_, ?_, ?_, ?_, ?_, ?_, ?_, ?_, trivial⟩
   · intro l_ a' w' hA hC hJ hN hB hD; have s0 := hA.to 0 (by kernel_rfl) rfl; clear hA hD; refine o7t rfl ?_; intro K hK; gi_wp2; exact hK _ _ rfl (B7 _ _) (SlT.plainB rfl (B7 _ _))
   · intro l_ a' w' hA hC hJ hN hB hD; obtain ⟨u10, s10, rfl⟩ := hD ⟨0, .data⟩ (by simp) rfl _ rfl; clear hA hD; refine o7t rfl ?_; intro K hK; gi_wp2; exact hK _ _ rfl (B7 _ _) (SlT.plainB rfl (B7 _ _))
   · intro l_ a' w' hA hC hJ hN hB hD; obtain ⟨u11, s11, rfl⟩ := hD ⟨1, .data⟩ (by simp) rfl _ rfl; clear hA hD; refine o7t rfl ?_; intro K hK; gi_wp2; exact hK _ _ rfl (B7 _ _) (SlT.plainB rfl (B7 _ _))
   · intro l_ a' w' hA hC hJ hN hB hD; obtain ⟨u12, s12, rfl⟩ := hD ⟨2, .data⟩ (by simp) rfl _ rfl; clear hA hD; refine o7t rfl ?_; intro K hK
     refine ldF _ rfl (by simp [Act.eval, s12]) (HB.out.below hC).at_ ?_; exact hK _ _ rfl (B7 _ _) (SlT.plainB rfl (B7 _ _))
   · intro l_ a' w' hA hC hJ hN hB hD; have s1 := hA.to 1 (by kernel_rfl) rfl; clear hA hD; refine o7t rfl ?_; intro K hK
     refine ldV _ rfl (by simp [Act.eval, s1]) (HC.out.below hC).at_ ?_; exact hK _ _ rfl (B7 _ _) (SlT.plainB rfl (B7 _ _))
   · intro l_ a' w' hA hC hJ hN hB hD; obtain ⟨u13, s13, rfl⟩ := hD ⟨3, .data⟩ (by simp) rfl _ rfl; obtain ⟨u14, s14, rfl⟩ := hD ⟨4, .data⟩ (by simp) rfl _ rfl; clear hA hD; refine o7t rfl ?_; intro K hK
     gi_wp2_with fail; refine (callsIn_wide.2 (HR.out _)).mono ?_; rintro e w2 ⟨rfl, hb⟩
     exact hK _ _ rfl (hb.mono hC.size) (SlT.plainB rfl hb)
   · intro l_ a' w' hA hC hJ hN hB hD; obtain ⟨u15, s15, rfl⟩ := hD ⟨5, .data⟩ (by simp) rfl _ rfl; clear hA hD; refine o7t rfl ?_; intro K hK; gi_wp2; exact hK _ _ rfl (B7 _ _) (SlT.plainB rfl (B7 _ _))
   · intro l_ a' w' hA hC hJ hN hB hD; obtain ⟨u9, s9, rfl⟩ := hD ⟨6, .data⟩ (by simp) rfl _ rfl; clear hA hD; refine o7t rfl ?_; intro K hK; gi_wp2; exact hK _ _ rfl (B7 _ _) (SlT.plainB rfl (B7 _ _))
   · intro l_ a' w' hA hC hJ hN hB hD; obtain ⟨u9, s9, rfl⟩ := hD ⟨6, .data⟩ (by simp) rfl _ rfl; clear hA hD; refine o7t rfl ?_; intro K hK; gi_wp2; exact hK _ _ rfl (B7 _ _) (SlT.plainB rfl (B7 _ _))
   · intro l_ a' w' hA hC hJ hN hB hD; clear hA hD; refine o7t rfl ?_; intro K hK; gi_wp2; exact hK _ _ trivial ((B7 _ _).alloc hC.size _) (SlT.alloc (by intro t ht e; simp only [List.mem_cons, List.not_mem_nil, or_false] at ht; rcases ht with rfl <;> first | rfl | (exact absurd e (Nat.ne_of_beq_eq_false rfl))) (by intro t ht; simp only [List.mem_cons, List.not_mem_nil, or_false] at ht; rcases ht with rfl <;> exact Nat.ne_of_beq_eq_false rfl))
   · intro l_ a' w' hA hC hJ hN hB hD; obtain ⟨u3, s3, r3⟩ := hD ⟨9, .data⟩ (by simp) rfl _ rfl; replace r3 : (fun _ _ => True) u3 w' := r3; obtain ⟨u16, s16, rfl⟩ := hD ⟨7, .data⟩ (by simp) rfl _ rfl
     obtain ⟨b3, n3, t3, o3⟩ := hJ.at_ _ (List.mem_of_getElem? (i := 0) rfl) (hB ⟨9, .data⟩ (by simp) rfl)
     rw [show l_.getD 10 false = false from hN] at o3
     replace o3 : w'.heap[b3]? = some (.cells #[.int .u64 0, .int .u64 0, .int .u64 0, .int .u64 0, .int .u64 0, .int .u64 0, .int .u64 0, .int .u64 0, .int .u64 0] 24 (0, 0)) := o3
     obtain rfl : u3 = ptrB b3 := Option.some.inj (s3.symm.trans t3)
     clear r3
     clear hA hD; refine o7t rfl ?_; intro K hK
     have f3 := f7b o3
     have c3_0 := c7b (k := 0) o3 rfl
     have c3_1 := c7b (k := 1) o3 rfl
     have c3_2 := c7b (k := 2) o3 rfl
     have c3_3 := c7b (k := 3) o3 rfl
     have c3_4 := c7b (k := 4) o3 rfl
     have c3_5 := c7b (k := 5) o3 rfl
     have c3_6 := c7b (k := 6) o3 rfl
     have c3_7 := c7b (k := 7) o3 rfl
     have c3_8 := c7b (k := 8) o3 rfl
     have f3_0 := f3 0
     have f3_1 := f3 1
     have f3_2 := f3 2
     have f3_3 := f3 3
     have f3_4 := f3 4
     have f3_5 := f3 5
     have f3_6 := f3 6
     have f3_7 := f3 7
     have f3_8 := f3 8
     clear f3; unfold ptrB at s3 t3; gi_wp2; exact hK undef _ trivial (below_set9 A (B7 _ _) n3) (SlT.store _ (by intro t ht e; simp only [List.mem_cons, List.not_mem_nil, or_false] at ht; rcases ht with rfl <;> first | rfl | (exact absurd e (Nat.ne_of_beq_eq_false rfl))) (by intro t ht; simp only [List.mem_cons, List.not_mem_nil, or_false] at ht; rcases ht with rfl <;> exact Nat.ne_of_beq_eq_false rfl) (List.mem_of_getElem? (i := 0) rfl) rfl b3 (by unfold envOf; rw [t3]; rfl) (heap_set9 (o := fun _ => 0) A o3) (others9 A))
   · intro l_ a' w' hA hC hJ hN hB hD; obtain ⟨u17, s17, rfl⟩ := hD ⟨8, .data⟩ (by simp) rfl _ rfl
     obtain ⟨b3, n3, t3, o3⟩ := hJ.at_ _ (List.mem_of_getElem? (i := 0) rfl) (hB ⟨9, .phase⟩ (by simp) rfl)
     clear hA hD; refine o7t rfl ?_; intro K hK; gi_wp2; exact hK _ _ rfl (B7 _ _) (SlT.plainB rfl (B7 _ _))
  case hend =>
   intro w3 hC
   simp only [EndFrom, eqv, forall_eq, Act.put, List.length_cons, List.length_nil, List.drop_succ_cons, List.drop_zero, Nat.reduceAdd, List.setIfInBounds_toArray, List.set_cons_succ, List.set_cons_zero]
   rintro v3 - v10 - hE2
   obtain ⟨q, hqN, hq1, hq2⟩ := hE2.1 _ (List.mem_of_getElem? (i := 0) rfl)
   obtain rfl : v3 = ptrB q := Option.some.inj hq1
   have HQ := H7 (BlkA.mk (show w3.heap[q]? = some (.cells (lit9 A) 24 (0, 0)) from hq2))
   have hc_ := hC
   have HT := H7 (HT.out.two (Turned.ofBelow (fun j => j = b) hC))
   have HB := H7 (HB.out.below hc_)
   have HC := H7 (HC.out.below hc_)
   clear hc_
   have HQN := H7 (show q < w3.heap.size ∧ q ≠ b from ⟨b7t HQ.out.at_, by have h4 := HBS.out; omega⟩)
   clear hE2 hq1 hq2 hC
   unfold ptrB
   gi_wp2_with fail
   cases r with
   | false =>
    have hE0 : E = 4 := hE.symm.trans rfl
    subst hE0
    clear hE
    go_wp2_with (go_at_call 41; refine (frNeed_no _ _).mono ?_; rintro e w' ⟨rfl, rfl⟩)
    exact ⟨rfl, HT.out, fun h => absurd h (by decide), fun _ => rfl⟩
   | true =>
    have hE0 : E = 0 := hE.symm.trans rfl
    subst hE0
    clear hE
    have HAV := H7 (show A = askF f from HAV.out)
    go_wp2_with (go_at_call 41; refine (frNeed_ok _ _).mono ?_; rintro e w' ⟨rfl, rfl⟩)
    repeat ((fail_if_success (with_reducible refine stop_at (id := 3) ?_)); (first | go_values | go_skip | go_guarded | go_step | go_upon | go_back | (simp only [Int.not_lt, Int.not_le] at *; go_simp) | (go_values <;> (try go_simp)) | (go_ite <;> go_prune <;> (try go_simp)) | (split <;> (first | (rename_i hx; exact (hx _ rfl).elim) | go_prune))))
    have HNE := H7 (show (Obj.cells (lit9 A) 24 (0, 0)) ≠ (Obj.cells f.cells 85 (0, 0)) from fun h => by
     injection h with _ h2
     exact absurd h2 (by decide))
    have HBL := H7 (b7t HB.out.at_)
    refine (wpIn_wide (n := 0)).1 ?_
    refine wpIn_region_any (by kernel_rfl) ?_
    apply take_first (i := 0) (some 20)
    case hro => rfl
    case hi => rfl
    case hd => rfl
    case hs => kernel_rfl
    case hf => kernel_rfl
    case hr => kernel_rfl
    case hQ => exact fun _ _ _ h => h
    case hy => exact ⟨.inl ⟨by rfl, fun w => by go_simp; rfl⟩, fun _ => rfl⟩
    simp only [Act.put, List.setIfInBounds_toArray, List.set_cons_succ, List.set_cons_zero]
    apply take_first (i := 1) (some 21)
    case hro => rfl
    case hi => rfl
    case hd => rfl
    case hs => kernel_rfl
    case hf => kernel_rfl
    case hr => kernel_rfl
    case hQ => exact fun _ _ _ h => h
    case hy => exact ⟨.inl ⟨by rfl, fun w => by go_simp; rfl⟩, fun _ => rfl⟩
    simp only [Act.put, List.setIfInBounds_toArray, List.set_cons_succ, List.set_cons_zero]
    apply take_first (i := 2) (some 22)
    case hro => rfl
    case hi => rfl
    case hd => rfl
    case hs => kernel_rfl
    case hf => kernel_rfl
    case hr => kernel_rfl
    case hQ => exact fun _ _ _ h => h
    case hy => exact ⟨.inl ⟨by rfl, fun w => by go_simp; rfl⟩, fun _ => rfl⟩
    simp only [Act.put, List.setIfInBounds_toArray, List.set_cons_succ, List.set_cons_zero]
    apply wp_facts_marks [3, 4, 5, 6, 7, 8, 9, 10, 11, 12] [13, 14, 15, 16, 17, 18, 19, 20] [false, false, false, true, true, true, true, true, true, true, true, true, true, false, false, false, false, false, false, false, false] [false, false, false, false, false, false, false, false, false, false, false, false, false, true, true, true, true, true, true, true, true] (Rl := [(3, (eqv _)), (4, (eqv _)), (5, (eqv _)), (6, (eqv _)), (7, (eqv _)), (8, (eqv _)), (9, (eqv _)), (10, (eqv _)), (11, (eqv _)), (12, (fun v_ w_ => w_.heap[b]? = some (.cells (folded1 f).cells 85 (0, 0))))]) (C := (fun x y => TurnC b (.cells f.cells 85 (0, 0)) (.cells (folded1 f).cells 85 (0, 0)) x y))
    case hk => rfl
    case hnd => decide
    case hmf => kernel_rfl
    case hmt => kernel_rfl
    case hCr => exact (fun x => TurnC.refl _ _ _ x)
    case hCt => intro _ _ _; exact (fun h k => TurnC.trans h k)
    case hst => exact ⟨fun _ _ _ _ h => h, fun _ _ _ _ h => h, fun _ _ _ _ h => h, fun _ _ _ _ h => h, fun _ _ _ _ h => h, fun _ _ _ _ h => h, fun _ _ _ _ h => h, fun _ _ _ _ h => h, fun _ _ _ _ h => h, fun _ _ _ hC h => hC.f h, trivial⟩
    case hfo => kernel_rfl
    case hsp => kernel_rfl
    case hch => kernel_rfl
    case hfuel => kernel_rfl
    case hsteps =>
     refine ⟨?_, ?_, ?_, ?_, ?_, ?_, ?_, ?_, ?_, ?_, trivial⟩
     · intro a' w' hA hC hD; have s0 := hA.to 0 (by kernel_rfl) rfl; clear hA hD; refine o7p rfl ?_; intro K hK; gi_wp2; exact hK _ _ rfl ((fun x => TurnC.refl _ _ _ x) _)
     · intro a' w' hA hC hD; obtain ⟨u23, s23, rfl⟩ := hD ⟨3, .data⟩ (by simp) rfl (by simp) _ rfl; clear hA hD; refine o7p rfl ?_; intro K hK; gi_wp2; exact hK _ _ rfl ((fun x => TurnC.refl _ _ _ x) _)
     · intro a' w' hA hC hD; obtain ⟨u24, s24, rfl⟩ := hD ⟨4, .data⟩ (by simp) rfl (by simp) _ rfl; clear hA hD; refine o7p rfl ?_; intro K hK; gi_wp2; exact hK _ _ rfl ((fun x => TurnC.refl _ _ _ x) _)
     · intro a' w' hA hC hD; obtain ⟨u25, s25, rfl⟩ := hD ⟨5, .data⟩ (by simp) rfl (by simp) _ rfl; clear hA hD; refine o7p rfl ?_; intro K hK; gi_wp2; exact hK _ _ rfl ((fun x => TurnC.refl _ _ _ x) _)
     · intro a' w' hA hC hD; obtain ⟨u26, s26, rfl⟩ := hD ⟨6, .data⟩ (by simp) rfl (by simp) _ rfl
       have h7 := hC.e (.inl HB.out.at_); have c7 := (show w'.cell? ⟨b, 10, none⟩ = some (.int .u64 f.prop) from h7.elim Frt.propC (fun h => Frt.propC (f := folded1 f) h)); clear h7
       clear hA hD; refine o7p rfl ?_; intro K hK; gi_wp2; exact hK _ _ rfl ((fun x => TurnC.refl _ _ _ x) _)
     · intro a' w' hA hC hD; have s3 := hA.to 3 (by kernel_rfl) rfl; clear hA hD; refine o7p rfl ?_; intro K hK
       refine ldV _ rfl (by simp [Act.eval, s3]) ((hC.t.block _ HQN.out.1 HQN.out.2).trans HQ.out.at_) ?_; exact hK _ _ rfl (TurnC.refl _ _ _ _)
     · intro a' w' hA hC hD; have s20 := hA.to 20 (by kernel_rfl) rfl; clear hA hD; refine o7p rfl ?_; intro K hK; gi_wp2; exact hK _ _ rfl ((fun x => TurnC.refl _ _ _ x) _)
     · intro a' w' hA hC hD; obtain ⟨u29, s29, rfl⟩ := hD ⟨9, .data⟩ (by simp) rfl (by simp) _ rfl; clear hA hD; refine o7p rfl ?_; intro K hK; gi_wp2; exact hK _ _ rfl ((fun x => TurnC.refl _ _ _ x) _)
     · intro a' w' hA hC hD; obtain ⟨u30, s30, rfl⟩ := hD ⟨10, .data⟩ (by simp) rfl (by simp) _ rfl; clear hA hD; refine o7p rfl ?_; intro K hK; gi_wp2; exact hK _ _ rfl ((fun x => TurnC.refl _ _ _ x) _)
     · intro a' w' hA hC hD; obtain ⟨u31, s31, rfl⟩ := hD ⟨11, .data⟩ (by simp) rfl (by simp) _ rfl; obtain ⟨u27, s27, rfl⟩ := hD ⟨7, .data⟩ (by simp) rfl (by simp) _ rfl
       have he := hC.e (.inl HB.out.at_); obtain ⟨f1, hf1, hfs⟩ : ∃ f1 : Frt, w'.heap[b]? = some (.cells f1.cells 85 (0, 0)) ∧ f1.cells.setIfInBounds 0 (.int .u64 f.prop) = (folded1 f).cells := he.elim (fun h => ⟨f, h, rfl⟩) (fun h => ⟨folded1 f, h, rfl⟩); have c12 := Frt.foldedC hf1; have f12 := f7b hf1 0; have HS1 := H7 (show (w'.setCell ⟨b, 0, none⟩ (.int .u64 f.prop)).heap[b]? = some (.cells (folded1 f).cells 85 (0, 0)) from by have h := h7s (k := 0) hf1 (.int .u64 f.prop); rw [hfs] at h; exact h); clear he hf1 hfs
       clear hA hD; refine o7p rfl ?_; intro K hK; gi_wp2; exact hK undef _ HS1.out ⟨Turned.one, fun _ => .inr HS1.out, fun _ => HS1.out⟩
    case hend =>
     intro w5 hC
     simp only [EndL, pickM, eqv, forall_eq, Act.put, List.setIfInBounds_toArray, List.set_cons_succ, List.set_cons_zero]
     intro v12 h12
     obtain ⟨f1, hf1⟩ : ∃ f1, folded1 f = f1 := ⟨_, rfl⟩
     replace h12 : w5.heap[b]? = some (.cells f1.cells 85 (0, 0)) := by rw [← hf1]; exact h12
     have HF1 := H7 hf1
     clear hf1
     have h16 := heap_putAt (lit9 A).toList 1 h12
     rw [frt_putBy] at h16
     have HT5 := H7 (HT.out.two ((Turned.ofBelow (fun j => j = b) (g7d w3)).two (hC.t.two (turned_setCells (lit9 A).toList 1 w5))))
     have c20 := Frt.propC h16
     have f20 := f7b h16 10
     have hq5 := (hC.t.block _ HQN.out.1 HQN.out.2).trans HQ.out.at_
     have H16 := H7 h16
     have H12 := H7 h12
     clear hC h16 h12
     gi_step
     gi_step
     rename_i hK_
     refine hK_ _ _ ?_
     clear hK_
     gi_step
     gi_step
     rename_i hK_
     refine hK_ _ _ ?_
     clear hK_
     gi_step
     gi_step
     rename_i hK_
     refine hK_ _ _ ?_
     clear hK_
     gi_step
     refine stBy (b := b) (f := f1) (v := A) _ _ rfl rfl H12.out rfl ?_
     simp only [Act.put, List.setIfInBounds_toArray, List.set_cons_succ, List.set_cons_zero]
     rename_i hK_
     refine hK_ _ _ ?_
     clear hK_
     gi_wp2_with fail
     clear c20 f20
     have h20 := h7s (k := 10) H16.out (.int .u64 0)
     rw [frt_setProp] at h20
     have H20 := H7 h20
     have HT6 := H7 (HT5.out.two (Turned.one (o := 10) (v := .int .u64 0)))
     go_wp2_with fail
     go_end0
     refine ⟨HT6.out, fun _ => ⟨rfl, ?_⟩, fun h => absurd rfl h⟩
     rw [show foldF f = { ({ f1 with by_ := A } : Frt) with prop := 0 } from by rw [HAV.out, ← HF1.out]; rfl]
     exact H20.out
theorem fold_tries (f : Frt) (S : Nat → Int) (c : Nat) (w : World) (hc : w.heap[c]? = some (.cells (lit9 S) 24 (0, 0))) :
 Calls Tryz.prog 39 #[.agg f.cells, .func (.func 55) #[] #[.pointer (some ⟨c, 0, none⟩)]] w (Gives (.tuple #[.agg (trF f (foldF f) (foldE f S)).cells, .int .i64 (trE f (foldE f S))]) w) :=
 frTries_any 55 _ f (foldF f) (foldE f S) w (enters_of Tryz.func55 (by kernel_rfl) rfl) (fun hok w2 b hb hge hbk => fold1_any f S b c w2 hbk ((hb.block _ (b7t hc)).trans hc))
set_option maxRecDepth 100000 in
set_option maxHeartbeats 2000000 in
theorem fold_any (f : Frt) (S : Nat → Int) (w : World) : Calls Tryz.prog 25 #[.agg f.cells, .agg (lit9 S)] w (Gives (.tuple #[.agg (trF f (foldF f) (foldE f S)).cells, .int .i64 (trE f (foldE f S))]) w) := by
 have hmf : ∀ (fn : Fn) (first cap : Array Value) (w : World), (Instr.makeFunc fn first cap).run Tryz.prog w = .ok (.func fn first cap) w := fun _ _ _ _ => rfl
 have HS := H7 (St.start w)
 have HT := H7 (fold_tries f S (w.heap.size + 1))
 generalize trF f (foldF f) (foldE f S) = f2 at HT ⊢
 generalize trE f (foldE f S) = E at HT ⊢
 go_enter Tryz.func25, Tryz.ntmps25
 repeat ((fail_if_success (with_reducible refine stop_at (id := 1) ?_)); (first | go_values | go_skip | go_guarded | go_step | go_upon | go_back | (simp only [Int.not_lt, Int.not_le] at *; go_simp) | (go_values <;> (try go_simp)) | (go_ite <;> go_prune <;> (try go_simp)) | (split <;> (first | (rename_i hx; exact (hx _ rfl).elim) | go_prune))))
 rw [zeroF]
 have hs_ := (((HS.out.alloc (.cells f.cells 29)).alloc (.cells (lit9 S) 24)).alloc (.cells frZ.cells 29))
 obtain ⟨w1, hw_⟩ : ∃ w1 : World, (((w.alloc (.cells f.cells 29)).alloc (.cells (lit9 S) 24)).alloc (.cells frZ.cells 29)) = w1 := ⟨_, rfl⟩
 rw [hw_] at hs_
 try simp only [World.size_alloc] at hs_
 have HS := H7 hs_
 rw [hw_]
 clear hw_ hs_
 refine (wpIn_wide (n := 0)).1 ?_
 repeat (first | (refine ldF _ rfl rfl (HS.out.blockAt 2 rfl) ?_; simp only [Act.put, List.setIfInBounds_toArray, List.set_cons_succ, List.set_cons_zero]) | gi_step)
 refine (callsIn_wide.2 (HT.out _ (HS.out.blockAt 1 rfl))).mono ?_
 rintro e w2 ⟨rfl, hb_⟩
 have HS := H7 (HS.out.below hb_)
 clear hb_ HT
 simp only []; go_at_K
 repeat (first | (refine stF _ _ rfl rfl (HS.out.blockAt 0 rfl) rfl rfl ?_; simp only [Act.put, List.setIfInBounds_toArray, List.set_cons_succ, List.set_cons_zero]) | gi_step)
 gi_wp2_with fail
 go_wp2_with fail
 have hs := HS.out.putRow (c' := f2.cells) (pre := []) (by intro i hi; cases hi)
 simp only [List.nil_append] at hs
 refine bodyPost_ret (resFt rfl rfl rfl (hs.blockAt 0 rfl)) rfl ⟨rfl, hs.low⟩
theorem frNew_any (w : World) : Calls Tryz.prog 22 #[] w (Gives (.agg frZ.cells) w) := by
 have HS := H7 (St.start w)
 go_enter Tryz.func22, Tryz.ntmps22
 repeat ((fail_if_success (with_reducible refine stop_at (id := 1) ?_)); (first | go_values | go_skip | go_guarded | go_step | go_upon | go_back | (simp only [Int.not_lt, Int.not_le] at *; go_simp) | (go_values <;> (try go_simp)) | (go_ite <;> go_prune <;> (try go_simp)) | (split <;> (first | (rename_i hx; exact (hx _ rfl).elim) | go_prune))))
 rw [zeroF]
 have hs_ := (HS.out.alloc (.cells frZ.cells 29))
 obtain ⟨w1, hw_⟩ : ∃ w1 : World, (w.alloc (.cells frZ.cells 29)) = w1 := ⟨_, rfl⟩
 rw [hw_] at hs_
 try simp only [World.size_alloc] at hs_
 have HS := H7 hs_
 rw [hw_]
 clear hw_ hs_
 refine (wpIn_wide (n := 0)).1 ?_
 repeat (first | (refine bdF _ rfl rfl ?_; simp only [Act.put, List.setIfInBounds_toArray, List.set_cons_succ, List.set_cons_zero]) | (refine stF _ _ rfl rfl (HS.out.blockAt 0 rfl) rfl rfl ?_; simp only [Act.put, List.setIfInBounds_toArray, List.set_cons_succ, List.set_cons_zero]) | gi_step)
 gi_wp2_with fail
 have hs := HS.out.putRow (c' := frZ.cells) (pre := []) (by intro i hi; cases hi)
 simp only [List.nil_append] at hs
 go_wp2_with fail
 refine bodyPost_ret (resF rfl rfl (hs.blockAt 0 rfl)) rfl ⟨rfl, hs.low⟩
theorem sites1_any (a : Option Addr) (n c : Nat) (l : List Int) (x : Int) (hl : l.length = n) (hn : n ≤ 1000000) (q : Nat) (w : World) (hq : w.heap[q]? = some (.cells #[.slice a n c] 30 (0, 0))) (he : Elems w (.slice a n c) n 1 (rowC encZ l)) :
 Calls Tryz.prog 63 #[.int .i64 x, .pointer (some ⟨q, 0, none⟩)] w (Gives (.bool (decide (x ∈ l))) w) := by
 have HI := H7 (conZ_any a n c l x hl hn w he)
 generalize decide (x ∈ l) = r at HI ⊢
 have c0 := c7b (k := 0) hq rfl
 clear hq he hl
 go_enter Tryz.func63, Tryz.ntmps63
 go_wp2_with fail
 refine HI.out.mono ?_
 rintro e w2 ⟨rfl, hb⟩
 have HB := H7 hb
 clear hb c0
 go_wp2_with fail
 go_ret
 exact ⟨rfl, HB.out⟩
def sitesL (f : Frt) (l : List Int) : List Int := if f.okB = true then (if l.length = 0 then natI (regL f) else l.filter fun x => decide (x ∈ natI (regL f))) else []
set_option maxRecDepth 100000 in
set_option maxHeartbeats 2000000 in
theorem sitesF_any (f : Frt) (a : Option Addr) (n c : Nat) (l : List Int) (hl : l.length = n) (hn : n ≤ 1000000) (w : World) (he : Elems w (.slice a n c) n 1 (rowC encZ l)) :
 Calls Tryz.prog 36 #[.agg f.cells, .slice a n c] w (GivesRow 3 1 (sitesL f l).length ((sitesL f l).flatMap encZ) w) := by
 have hmf : ∀ (fn : Fn) (first cap : Array Value) (w : World), (Instr.makeFunc fn first cap).run Tryz.prog w = .ok (.func fn first cap) w := fun _ _ _ _ => rfl
 have HS := H7 (St.start w)
 have HE := H7 (fun w' (hb : Below w.heap.size w w') => he.below hb)
 have HC := H7 (fun w' => frCheck_any f w')
 obtain ⟨x1, h1⟩ : ∃ x, f.okB = x := ⟨_, rfl⟩
 rw [h1] at HC
 obtain ⟨L, hL⟩ : ∃ L, sitesL f l = L := ⟨_, rfl⟩
 have HL := H7 (show (if x1 = true then (if l.length = 0 then natI (regL f) else l.filter fun x => decide (x ∈ natI (regL f))) else []) = L from by rw [← hL, ← h1]; rfl)
 have HN := H7 (And.intro hl hn)
 rw [hL]
 clear hL h1 he hl hn
 go_enter Tryz.func36, Tryz.ntmps36
 repeat ((fail_if_success (with_reducible refine stop_at (id := 1) ?_)); (first | go_values | go_skip | go_guarded | go_step | go_upon | go_back | (simp only [Int.not_lt, Int.not_le] at *; go_simp) | (go_values <;> (try go_simp)) | (go_ite <;> go_prune <;> (try go_simp)) | (split <;> (first | (rename_i hx; exact (hx _ rfl).elim) | go_prune))))
 have hs_ := (HS.out.alloc (.cells f.cells 29))
 obtain ⟨w1, hw_⟩ : ∃ w1 : World, (w.alloc (.cells f.cells 29)) = w1 := ⟨_, rfl⟩
 rw [hw_] at hs_
 try simp only [World.size_alloc] at hs_
 have HS := H7 hs_
 rw [hw_]
 clear hw_ hs_
 refine (wpIn_wide (n := 0)).1 ?_
 repeat (first | (refine ldF _ rfl rfl (HS.out.blockAt 0 rfl) ?_; simp only [Act.put, List.setIfInBounds_toArray, List.set_cons_succ, List.set_cons_zero]) | gi_step)
 refine (callsIn_wide.2 (HC.out _)).mono ?_
 rintro e w2 ⟨rfl, hb_⟩
 have HS := H7 (HS.out.below hb_)
 clear hb_
 cases x1 with
 | false =>
  rw [show errOf false 280 = 280 from rfl]
  gi_wp2_with (exfalso; exact undefB (by assumption))
  go_wp2_with fail
  rw [← HL.out]
  go_ret
  exact ⟨_, rfl, World.ownsRow_nil _ _ _ _, HS.out.low⟩
 | true =>
  rw [show errOf true 280 = 0 from rfl]
  gi_wp2_with (exfalso; exact undefB (by assumption))
  repeat ((fail_if_success (with_reducible refine stop_at (id := 3) ?_)); (first | go_values | go_skip | go_guarded | go_step | go_upon | go_back | (simp only [Int.not_lt, Int.not_le] at *; go_simp) | (go_values <;> (try go_simp)) | (go_ite <;> go_prune <;> (try go_simp)) | (split <;> (first | (rename_i hx; exact (hx _ rfl).elim) | go_prune))))
  refine (wpIn_wide (n := 0)).1 ?_
  repeat (first | (refine ldF _ rfl rfl (HS.out.blockAt 0 rfl) ?_; simp only [Act.put, List.setIfInBounds_toArray, List.set_cons_succ, List.set_cons_zero]) | gi_step)
  refine (callsIn_wide.2 (frAll_any f _)).mono ?_
  rintro e w3 ⟨sv, rfl, hrow, hb_⟩
  have hz := HS.out.low.size
  have HS := H7 (HS.out.below hb_)
  clear hb_
  have hrow : RowH w2.heap.size _ (natI (regL f)) sv w3 := ⟨natI_len _, hrow⟩
  obtain ⟨a2, c2, rfl⟩ := hrow.shape
  have HROW := H7 hrow
  have HZ := H7 hz
  have hn9 := regL_len f
  obtain ⟨m, hm⟩ : ∃ m, (regL f).length = m := ⟨_, rfl⟩
  rw [hm] at HROW hn9 ⊢
  clear hrow hz HC hm
  gi_wp2_with fail
  have hs_ := (HS.out.alloc (.cells #[.slice a2 m c2] 30))
  have hk_HROW := HROW.out.below ((B7 _ _).alloc (by exact Nat.le_refl _) (.cells #[.slice a2 m c2] 30))
  obtain ⟨w4, hw_⟩ : ∃ w4 : World, (w3.alloc (.cells #[.slice a2 m c2] 30)) = w4 := ⟨_, rfl⟩
  rw [hw_] at hs_ hk_HROW
  try simp only [World.size_alloc] at hs_
  have HS := H7 hs_
  have HROW := H7 hk_HROW
  rw [hw_]
  clear hw_ hs_ hk_HROW
  cases n with
  | zero =>
   have HL := H7 (show L = natI (regL f) from by rw [← HL.out, if_pos trivial, if_pos HN.out.1])
   have c0 := h7c HS 0 0 rfl rfl
   go_wp2_with fail
   rw [HL.out]
   go_ret
   exact givesRow_mk HROW.out HZ.out HS.out.low
  | succ n =>
   have HL := H7 (show L = l.filter fun x => decide (x ∈ natI (regL f)) from by rw [← HL.out, if_pos trivial, if_neg (by rw [HN.out.1]; omega)])
   have hw4 := HS.out.low
   have hq := HS.out.blockAt 0 rfl
   have hel := HROW.out.el
   have hlr := HROW.out.len
   have HSI := H7 (sifted_any 63 #[.pointer (some ⟨w3.heap.size, 0, none⟩)] (fun x => decide (x ∈ natI (regL f))) (enters_of Tryz.func63 (by kernel_rfl) rfl) a (n + 1) c l HN.out.1 HN.out.2 w4 (HE.out _ hw4)
    (fun x w' _ hb' => sites1_any a2 m c2 (natI (regL f)) x hlr (by omega) w3.heap.size w' ((hb'.block _ (b7t hq)).trans hq) (hel.below hb')))
   clear hw4 hq hel hlr
   have c0 := h7c HS 0 0 rfl rfl
   repeat ((fail_if_success (with_reducible refine stop_at (id := 6) ?_)); (first | go_values | go_skip | go_guarded | go_step | go_upon | go_back | (simp only [Int.not_lt, Int.not_le] at *; go_simp) | (go_values <;> (try go_simp)) | (go_ite <;> go_prune <;> (try go_simp)) | (split <;> (first | (rename_i hx; exact (hx _ rfl).elim) | go_prune))))
   refine (wpIn_wide (n := 0)).1 ?_
   clear c0
   gi_wp2_with fail
   refine (callsIn_wide.2 HSI.out).mono ?_
   rintro e w7 ⟨sv, rfl, hrow, hb_⟩
   have hz := HS.out.low.size
   have HS := H7 (HS.out.below hb_)
   clear hb_
   have hrow : RowH w4.heap.size _ (l.filter fun x => decide (x ∈ natI (regL f))) sv w7 := ⟨rfl, hrow⟩
   obtain ⟨a3, c3, rfl⟩ := hrow.shape
   have HROW := H7 hrow
   have HZ := H7 hz
   clear hrow hz HSI
   generalize (l.filter fun x => decide (x ∈ natI (regL f))).length = m2 at HROW ⊢
   gi_wp2_with fail
   go_wp2_with fail
   rw [HL.out]
   go_ret
   exact givesRow_mk HROW.out HZ.out HS.out.low
/- Layer 18: Propose. -/
def propT (l : LogT) (n : Int) : Int := match l.ops[l.ops.length - 1 - n.toNat]? with
 | some x => x.1.id.time
 | none => 0
def propE (f : Frt) (l : LogT) (n : Int) : Int :=
 if l.okB = false then 240 else if n < 0 then 2 else if (f.prop == 0) = false then 5 else if (l.ops.length : Int) ≤ n then 4 else if propT l n ≤ f.folded then 4 else 0
def propF (f : Frt) (l : LogT) (n : Int) : Frt := { f with prop := propT l n }
theorem LogV.below {l : LogT} {pv : Value} {w w' : World} (h : LogV l pv w) (hb : Below w.heap.size w w') : LogV l pv w' := by
 obtain ⟨a, cap, h1, h2, h3, h4⟩ := h
 exact ⟨a, cap, h1, h2.below hb, h3, h4⟩
theorem size_L (l : LogT) (pv : Value) : (Tryz.prog.info? 41).map (·.size) = some (l.cells pv).size := by kernel_rfl
theorem ldL {F : Fence} {n : Nat} {w : World} {o : Oper} {a : Act} {K : Act → World → Prop} {Q : Exit → Act → World → Prop} (x : Operand) (ho : o.op = .load 41 x) {b : Nat} (hx : a.eval x = .pointer (some ⟨b, 0, none⟩)) {l : LogT} {pv : Value} {t : TypeId} {fr : Nat × Nat} (hg : w.heap[b]? = some (.cells (l.cells pv) t fr)) (hK : K (a.put o.dst (.agg (l.cells pv))) w) : o.wpIn F n Tryz.prog a w K Q :=
 opIn_load 41 x ho b hx t _ fr _ hg Tryz.underlying41 rfl (size_L l pv) hK
set_option maxRecDepth 100000 in
set_option maxHeartbeats 600000 in
theorem propose1_any (f : Frt) (l : LogT) (pv : Value) (n : Int) (b c d : Nat) (w : World) (hb : w.heap[b]? = some (.cells f.cells 85 (0, 0))) (hc : w.heap[c]? = some (.cells (l.cells pv) 41 (0, 0))) (hd : w.heap[d]? = some (.cells #[.int .i64 n] 3 (0, 0))) (hl : LogV l pv w) (hn64 : n < 9223372036854775808) :
 Calls Tryz.prog 47 #[.pointer (some ⟨b, 0, none⟩), .pointer (some ⟨c, 0, none⟩), .pointer (some ⟨d, 0, none⟩)] w (EndsF b (propF f l n) (propE f l n) w) := by
 have HB := H7 (BlkA.mk hb)
 have HC := H7 (BlkA.mk hc)
 have HD := H7 (BlkA.mk hd)
 have HV := H7 hl
 have HS := H7 (St.start w)
 obtain ⟨E, hE⟩ : ∃ E, propE f l n = E := ⟨_, rfl⟩
 obtain ⟨f2, hf2⟩ : ∃ f2, propF f l n = f2 := ⟨_, rfl⟩
 have HF2 := H7 hf2
 rw [hE, hf2]
 unfold propE at hE
 clear hb hc hd hl hf2
 go_enter Tryz.func47, Tryz.ntmps47
 repeat ((fail_if_success (with_reducible refine stop_at (id := 0) ?_)); (first | go_values | go_skip | go_guarded | go_step | go_upon | go_back | (simp only [Int.not_lt, Int.not_le] at *; go_simp) | (go_values <;> (try go_simp)) | (go_ite <;> go_prune <;> (try go_simp)) | (split <;> (first | (rename_i hx; exact (hx _ rfl).elim) | go_prune))))
 refine (wpIn_wide (n := 0)).1 ?_
 repeat (first | (refine ldL _ rfl rfl HC.out.at_ ?_; simp only [Act.put, List.setIfInBounds_toArray, List.set_cons_succ, List.set_cons_zero]) | gi_step)
 refine (callsIn_wide.2 (lgCheck_any l pv _ HV.out)).mono ?_
 rintro e w2 ⟨rfl, hb_⟩
 have HS := H7 (HS.out.below hb_)
 have HB := H7 (HB.out.below hb_)
 have HC := H7 (HC.out.below hb_)
 have HD := H7 (HD.out.below hb_)
 have HV := H7 (HV.out.below hb_)
 clear hb_
 cases hok : l.okB with
 | false =>
  rw [if_pos hok] at hE
  subst hE
  rw [show errOf false 240 = 240 from rfl]
  gi_wp2_with (gi_at_call 41; refine (callsIn_wide.2 (frNeed_no _ _)).mono ?_; rintro e w' ⟨rfl, rfl⟩)
  exact ⟨rfl, Turned.ofBelow _ HS.out.low, fun h => absurd h (by decide), fun _ => rfl⟩
 | true =>
  rw [if_neg (by rw [hok]; decide)] at hE
  rw [show errOf true 240 = 0 from rfl]
  gi_wp2_with (gi_at_call 41; refine (callsIn_wide.2 (frNeed_ok _ _)).mono ?_; rintro e w' ⟨rfl, rfl⟩)
  have d0 := c7b (k := 0) HD.out.at_ rfl
  clear hok
  by_cases h1 : n < 0
  · rw [if_pos h1] at hE
    subst hE
    have e1 : decide (n ≥ 0) = false := decide_eq_false (by omega)
    clear h1
    go_wp2_with (go_at_call 41; refine (frNeed_no _ _).mono ?_; rintro e w' ⟨rfl, rfl⟩)
    exact ⟨rfl, Turned.ofBelow _ HS.out.low, fun h => absurd h (by decide), fun _ => rfl⟩
  · rw [if_neg h1] at hE
    obtain ⟨k, rfl⟩ : ∃ k : Nat, n = (k : Int) := ⟨n.toNat, by omega⟩
    clear h1
    cases h2 : (f.prop == 0) with
    | false =>
     rw [if_pos h2] at hE
     subst hE
     have p0 := Frt.propC HB.out.at_
     go_wp2_with (go_at_call 41; first | (with_reducible refine (frNeed_no _ _).mono ?_; rintro e w' ⟨rfl, rfl⟩) | (with_reducible refine (frNeed_ok _ _).mono ?_; rintro e w' ⟨rfl, rfl⟩))
     exact ⟨rfl, Turned.ofBelow _ HS.out.low, fun h => absurd h (by decide), fun _ => rfl⟩
    | true =>
     rw [if_neg (by rw [h2]; decide)] at hE
     have p0 := Frt.propC HB.out.at_
     obtain ⟨a, cap, hpv, ho, hlen, -⟩ := HV.out
     subst hpv
     have HO := H7 ho
     have HLEN := H7 hlen
     have q10 := (logCells HC.out.at_).2.2.2.2.2.2.2.2.2.2
     clear ho hlen
     by_cases h3 : (l.ops.length : Int) ≤ (k : Int)
     · rw [if_pos h3] at hE
       subst hE
       have hk3 : ¬ k < l.ops.length := by omega
       clear h3
       go_wp2_with (go_at_call 41; first | (with_reducible refine (frNeed_no _ _).mono ?_; rintro e w' ⟨rfl, rfl⟩) | (with_reducible refine (frNeed_ok _ _).mono ?_; rintro e w' ⟨rfl, rfl⟩))
       exact ⟨rfl, Turned.ofBelow _ HS.out.low, fun h => absurd h (by decide), fun _ => rfl⟩
     · rw [if_neg h3] at hE
       have hk3 : k < l.ops.length := by omega
       obtain ⟨m, hm⟩ : ∃ m, l.ops.length = m := ⟨_, rfl⟩
       obtain ⟨x, hx⟩ : ∃ x, l.ops[l.ops.length - 1 - k]? = some x := ⟨_, List.getElem?_eq_getElem (by omega)⟩
       obtain ⟨ob, off, rfl, -⟩ := HO.out.addr (by omega)
       have hr := HO.out.rng hx
       have hpt : propT l (k : Int) = x.1.id.time := by unfold propT; rw [Int.toNat_natCast, hx]
       rw [hpt] at hE
       unfold propF at HF2
       rw [hpt] at HF2
       rw [hm] at hr hk3 q10
       have c4 := hr 0 (.int .u64 x.1.id.time) rfl
       rw [Nat.add_zero] at c4
       have hw1 : wrap64 ((m : Int) - 1 - (k : Int)) = ((m - 1 - k : Nat) : Int) := by have := HLEN.out; unfold wrap64; omega
       have hw0 : wrap64 ((m : Int) - 1) = (m : Int) - 1 := by have := HLEN.out; unfold wrap64; omega
       have hj : m - 1 - k < m := by omega
       obtain ⟨j, hjj⟩ : ∃ j, m - 1 - k = j := ⟨_, rfl⟩
       rw [hjj] at c4 hw1 hj
       obtain ⟨T, hT⟩ : ∃ T, x.1.id.time = T := ⟨_, rfl⟩
       rw [hT] at c4 hE HF2
       have f0 := Frt.foldedC HB.out.at_
       clear hx hr hpt hm hjj hT h3
       by_cases h4 : T ≤ f.folded
       · rw [if_pos h4] at hE
         subst hE
         have e4 : decide (T > f.folded) = false := decide_eq_false (by omega)
         clear h4
         go_wp2_with (go_at_call 41; first | (with_reducible refine (frNeed_no _ _).mono ?_; rintro e w' ⟨rfl, rfl⟩) | (with_reducible refine (frNeed_ok _ _).mono ?_; rintro e w' ⟨rfl, rfl⟩))
         exact ⟨rfl, Turned.ofBelow _ HS.out.low, fun h => absurd h (by decide), fun _ => rfl⟩
       · rw [if_neg h4] at hE
         subst hE
         have e4 : decide (T > f.folded) = true := decide_eq_true (by omega)
         have fr := f7b HB.out.at_ 10
         have h10 := h7s (k := 10) HB.out.at_ (.int .u64 T)
         rw [frt_setProp] at h10
         have H10 := H7 h10
         have HT := H7 ((Turned.ofBelow (fun j => j = b) HS.out.low).two (Turned.one (o := 10) (v := .int .u64 T)))
         clear h4 h10
         go_wp2_with (go_at_call 41; first | (with_reducible refine (frNeed_no _ _).mono ?_; rintro e w' ⟨rfl, rfl⟩) | (with_reducible refine (frNeed_ok _ _).mono ?_; rintro e w' ⟨rfl, rfl⟩))
         go_end0
         exact ⟨HT.out, fun _ => ⟨rfl, by rw [← HF2.out]; exact H10.out⟩, fun h => absurd rfl h⟩
theorem propose_tries (f : Frt) (l : LogT) (pv : Value) (n : Int) (hn64 : n < 9223372036854775808) (c d : Nat) (w : World) (hl : LogV l pv w) (hc : w.heap[c]? = some (.cells (l.cells pv) 41 (0, 0))) (hd : w.heap[d]? = some (.cells #[.int .i64 n] 3 (0, 0))) :
 Calls Tryz.prog 39 #[.agg f.cells, .func (.func 47) #[] #[.pointer (some ⟨c, 0, none⟩), .pointer (some ⟨d, 0, none⟩)]] w (Gives (.tuple #[.agg (trF f (propF f l n) (propE f l n)).cells, .int .i64 (trE f (propE f l n))]) w) :=
 frTries_any 47 _ f (propF f l n) (propE f l n) w (enters_of Tryz.func47 (by kernel_rfl) rfl) (fun hok w2 b hb hge hbk => propose1_any f l pv n b c d w2 hbk ((hb.block _ (b7t hc)).trans hc) ((hb.block _ (b7t hd)).trans hd) (hl.below hb) hn64)
set_option maxRecDepth 100000 in
set_option maxHeartbeats 2000000 in
theorem propose_any (f : Frt) (l : LogT) (pv : Value) (n : Int) (hn64 : n < 9223372036854775808) (w : World) (hl : LogV l pv w) : Calls Tryz.prog 15 #[.agg f.cells, .agg (l.cells pv), .int .i64 n] w (Gives (.tuple #[.agg (trF f (propF f l n) (propE f l n)).cells, .int .i64 (trE f (propE f l n))]) w) := by
 have hmf : ∀ (fn : Fn) (first cap : Array Value) (w : World), (Instr.makeFunc fn first cap).run Tryz.prog w = .ok (.func fn first cap) w := fun _ _ _ _ => rfl
 have HS := H7 (St.start w)
 have HLV := H7 hl
 clear hl
 have HT := H7 (fun w' h => propose_tries f l pv n hn64 (w.heap.size + 1) (w.heap.size + 1 + 1) w' h)
 generalize trF f (propF f l n) (propE f l n) = f2 at HT ⊢
 generalize trE f (propE f l n) = E at HT ⊢
 go_enter Tryz.func15, Tryz.ntmps15
 repeat ((fail_if_success (with_reducible refine stop_at (id := 1) ?_)); (first | go_values | go_skip | go_guarded | go_step | go_upon | go_back | (simp only [Int.not_lt, Int.not_le] at *; go_simp) | (go_values <;> (try go_simp)) | (go_ite <;> go_prune <;> (try go_simp)) | (split <;> (first | (rename_i hx; exact (hx _ rfl).elim) | go_prune))))
 rw [zeroF]
 have hs_ := ((((HS.out.alloc (.cells f.cells 29)).alloc (.cells (l.cells pv) 41)).alloc (.cells #[.int .i64 n] 3)).alloc (.cells frZ.cells 29))
 obtain ⟨w1, hw_⟩ : ∃ w1 : World, ((((w.alloc (.cells f.cells 29)).alloc (.cells (l.cells pv) 41)).alloc (.cells #[.int .i64 n] 3)).alloc (.cells frZ.cells 29)) = w1 := ⟨_, rfl⟩
 rw [hw_] at hs_
 try simp only [World.size_alloc] at hs_
 have HS := H7 hs_
 rw [hw_]
 clear hw_ hs_
 refine (wpIn_wide (n := 0)).1 ?_
 repeat (first | (refine ldF _ rfl rfl (HS.out.blockAt 3 rfl) ?_; simp only [Act.put, List.setIfInBounds_toArray, List.set_cons_succ, List.set_cons_zero]) | gi_step)
 refine (callsIn_wide.2 (HT.out _ (HLV.out.below HS.out.low) (HS.out.blockAt 2 rfl) (HS.out.blockAt 1 rfl))).mono ?_
 rintro e w2 ⟨rfl, hb_⟩
 have HS := H7 (HS.out.below hb_)
 clear hb_ HT
 simp only []; go_at_K
 repeat (first | (refine stF _ _ rfl rfl (HS.out.blockAt 0 rfl) rfl rfl ?_; simp only [Act.put, List.setIfInBounds_toArray, List.set_cons_succ, List.set_cons_zero]) | gi_step)
 gi_wp2_with fail
 go_wp2_with fail
 have hs := HS.out.putRow (c' := f2.cells) (pre := []) (by intro i hi; cases hi)
 simp only [List.nil_append] at hs
 refine bodyPost_ret (resFt rfl rfl rfl (hs.blockAt 0 rfl)) rfl ⟨rfl, hs.low⟩
/- Layer 18: what the wakes see. -/
def markO (t s q : Int) : OpT := ⟨⟨t, s, q⟩, 3, 0, 0, 0, 0, 0, ⟨0, 0, 0, 0⟩, 0, 0, [], ⟨0, 0, 0⟩⟩
theorem built_mark (t s q : Int) : Tryz.prog.built 51 [(0, .agg #[.int .u64 t, .int .i64 s, .int .u64 q]), (1, .int .i64 3)] = some ((markO t s q).cells (.slice none 0 0)) := by kernel_rfl
def nilS : Value := .slice none 0 0
def wkOps : List OpX := [(markO 3 1 1, nilS), (markO 5 1 2, nilS), (markO 8 2 1, nilS)]
def wkLog : LogT := ⟨0, fun _ => 0, wkOps⟩
def wkV18 : Nat → Int | 1 => 2 | 2 => 1 | _ => 0
def wkU18 : Nat → Int | 1 => 1 | 2 => 1 | _ => 0
def wkPl1 : Plg := ⟨true, 5, 2, wkV18⟩
def wkPl2 : Plg := ⟨true, 6, 1, wkU18⟩
def wkPl3 : Plg := ⟨true, 6, 9, wkV18⟩
def wkF1 : Frt := regF frZ 1
def wkF2 : Frt := regF wkF1 2
def wkF3 : Frt := propF wkF2 wkLog 1
def wkF4 : Frt := hearF wkF3 1 wkPl1
def wkF5 : Frt := hearF wkF4 2 wkPl2
def wkF6 : Frt := hearF wkF5 2 wkPl3
def wkF7 : Frt := foldF wkF6
theorem wk1 : trE frZ (regE frZ 1) = 0 := by kernel_rfl
theorem wk2 : trE wkF1 (regE wkF1 2) = 0 := by kernel_rfl
theorem wk3 : trE wkF2 (propE wkF2 wkLog 1) = 0 := by kernel_rfl
theorem wk3n : trE wkF2 (propE wkF2 wkLog 3) = 4 := by kernel_rfl
theorem wk4 : trE wkF3 (hearE wkF3 1 wkPl1) = 0 := by kernel_rfl
theorem wk5 : trE wkF4 (hearE wkF4 2 wkPl2) = 0 := by kernel_rfl
theorem wk5w : waitsL wkF5 wkV18 = [2] := by kernel_rfl
theorem wk6 : trE wkF5 (hearE wkF5 2 wkPl3) = 0 := by kernel_rfl
theorem wk6r : readyB wkF6 wkV18 = true := by kernel_rfl
theorem wk6v : lit9 (askF wkF6) = lit9 wkV18 := by kernel_rfl
theorem wk7 : trE wkF6 (foldE wkF6 wkV18) = 0 := by kernel_rfl
theorem wk7f : wkF7.folded = 5 := by kernel_rfl
theorem wk7b : vecEq wkF7.by_ wkV18 = true := by kernel_rfl
theorem wk7s : sitesL wkF7 [] = [1, 2] := by kernel_rfl
end Go.Proofs.YteklfmacnnmomaaGreat
