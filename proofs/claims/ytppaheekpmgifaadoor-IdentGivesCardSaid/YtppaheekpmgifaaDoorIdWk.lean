/- gessolaw11.wakes: the layer does something. -/
import Derived.Test.YtppaheekpmgifaaDoorIdRc
import Derived.Test.YtppaheekpmgifaaDoorIdVb
namespace Go.Proofs.YtppaheekpmgifaaDoor
set_option linter.unusedSimpArgs false
set_option linter.unusedVariables false
open Go.RowKit Go.Shelf

def ts2 (j : Nat) : Int := if j = 0 then 5 else 20
theorem w_n1 : nxC ⟨2, 7, 3⟩ = ⟨2, 8, 4⟩ ∧ nxI ⟨2, 7, 3⟩ = ⟨8, 2, 4⟩ ∧ nxE ⟨2, 7, 3⟩ = 0 := ⟨rfl, rfl, rfl⟩
theorem w_s : seC ts2 2 ⟨2, 8, 4⟩ = ⟨2, 20, 4⟩ ∧ seE ts2 2 ⟨2, 8, 4⟩ = 0 := ⟨rfl, rfl⟩
theorem w_n2 : nxC ⟨2, 20, 4⟩ = ⟨2, 21, 5⟩ ∧ nxI ⟨2, 20, 4⟩ = ⟨21, 2, 5⟩ ∧ nxE ⟨2, 20, 4⟩ = 0 := ⟨rfl, rfl, rfl⟩
theorem w_n3 : nxC ⟨1, 4611686018427387904, 0⟩ = clk0 ∧ nxI ⟨1, 4611686018427387904, 0⟩ = id0 ∧ nxE ⟨1, 4611686018427387904, 0⟩ = 212 := ⟨rfl, rfl, rfl⟩
theorem w_text : idText ⟨8, 2, 4⟩ = [56, 46, 50, 46, 52] := by
  unfold idText
  simp only [Lib.itoa]
  rw [if_neg (by decide)]
  simp only [show (8 : Int).toNat = 8 from rfl, show (2 : Int).toNat = 2 from rfl, show (4 : Int).toNat = 4 from rfl]
  rw [Lib.decDigits_one (by omega), Lib.decDigits_one (by omega), Lib.decDigits_one (by omega)]
  rfl
theorem w_sort : sortIds [⟨3, 1, 2⟩, ⟨2, 2, 1⟩, ⟨2, 1, 9⟩] = [⟨2, 1, 9⟩, ⟨2, 2, 1⟩, ⟨3, 1, 2⟩] := by
  simp [sortIds, List.mergeSort, List.MergeSort.Internal.splitInTwo, List.merge, idLess]
theorem w_cmp : cmpId ⟨2, 1, 9⟩ ⟨2, 2, 1⟩ = -1 := by decide
theorem w_check : idOk ⟨0, 1, 1⟩ = false := by decide

theorem w_str : str (idText ⟨8, 2, 4⟩) = .string ⟨#[56, 46, 50, 46, 52]⟩ := by rw [w_text]
theorem w_err : errOf (idOk ⟨0, 1, 1⟩) 210 = 210 := by rw [w_check]; rfl
theorem w_same : sameB [(⟨2, 1, 9⟩ : IdT), ⟨2, 2, 1⟩, ⟨3, 1, 2⟩] [⟨2, 1, 9⟩, ⟨2, 2, 1⟩, ⟨3, 1, 2⟩] = true := by simp [sameB]
theorem w_eq (a b c : Int) (w : World) : (binOp .eql 27 (.agg #[.int .u64 a, .int .i64 b, .int .u64 c]) (.agg #[.int .u64 a, .int .i64 b, .int .u64 c])).run Tryd.prog w = .ok (.bool true) w := by
  rw [run_eql_id]
  simp [idEqB]
/-- Three ids in a block. -/
theorem ids3 {w : World} {q : Nat} {a b c d e f g h i : Int} (hq : w.heap[q]? = some (.cells #[.int .u64 a, .int .i64 b, .int .u64 c, .int .u64 d, .int .i64 e, .int .u64 f, .int .u64 g, .int .i64 h, .int .u64 i] 27 (0, 0))) :
    Elems w (.slice (some ⟨q, 0, none⟩) 3 3) 3 3 (rowC encId [⟨a, b, c⟩, ⟨d, e, f⟩, ⟨g, h, i⟩]) := by
  refine .inr ⟨q, 0, 3, rfl, block_lt hq, fun j hj => ?_⟩
  match j, hj with
  | 0, _ => exact cell_of_block (k := 0) hq rfl
  | 1, _ => exact cell_of_block (k := 1) hq rfl
  | 2, _ => exact cell_of_block (k := 2) hq rfl
  | 3, _ => exact cell_of_block (k := 3) hq rfl
  | 4, _ => exact cell_of_block (k := 4) hq rfl
  | 5, _ => exact cell_of_block (k := 5) hq rfl
  | 6, _ => exact cell_of_block (k := 6) hq rfl
  | 7, _ => exact cell_of_block (k := 7) hq rfl
  | 8, _ => exact cell_of_block (k := 8) hq rfl
/-- A block of three cells is written. -/
theorem St.set3 {w0 x : World} {pre post : List It} {p : Nat} {a b c a' b' c' : Value} {t : TypeId} (h : St w0 (pre ++ .blk p (.cells #[a, b, c] t (0, 0)) :: post) x) (hpre : ∀ i ∈ pre, ∃ b ob, i = .blk b ob) :
    St w0 (pre ++ .blk p (.cells #[a', b', c'] t (0, 0)) :: post) (((x.setCell ⟨p, 0, none⟩ a').setCell ⟨p, 1, none⟩ b').setCell ⟨p, 2, none⟩ c') := by
  have hb : x.heap[p]? = some (.cells #[a, b, c] t (0, 0)) := h.ok (.blk p _) (by simp)
  have h0 := heap_set_same (k := 0) hb a'
  have h1 := heap_set_same (k := 1) h0 b'
  have h2 := heap_set_same (k := 2) h1 c'
  refine h.set hpre (h2.trans (by simp)) (fun k hk => ?_) ?_
  · have e : ∀ (y : World) (v : Value) (j : Nat), (y.setCell ⟨p, j, none⟩ v).heap[k]? = y.heap[k]? := fun y v j => Below.heap_setCell y ⟨p, j, none⟩ v k (by simpa using fun e => hk e)
    rw [e, e, e]
  · exact (((Below.refl p x).setCell (p := ⟨p, 0, none⟩) (Nat.le_refl _) _).setCell (p := ⟨p, 1, none⟩) (Nat.le_refl _) _).setCell (p := ⟨p, 2, none⟩) (Nat.le_refl _) _
theorem ts2_row (w : World) (q : Nat) (h : w.heap[q]? = some (.cells #[.int .u64 5, .int .u64 20] 25 (0, 0))) : Elems w (.slice (some ⟨q, 0, none⟩) 2 2) 2 1 (fun j => .int .u64 (ts2 j)) := by
  refine .inr ⟨q, 0, 2, rfl, block_lt h, fun j hj => ?_⟩
  match j, hj with
  | 0, _ => exact cell_of_block (k := 0) h rfl
  | 1, _ => exact cell_of_block (k := 1) h rfl

set_option maxRecDepth 100000 in
set_option maxHeartbeats 2000000 in
theorem wakes_any (w : World) (ht : Tab w) : Calls Tryd.prog 9 #[] w (Gives (.bool true) w) := by
  have HT := Lib.hid ht
  clear ht
  have HS := Lib.hid (St.start w)
  go_enter Tryd.func9, Tryd.ntmps9
  repeat ((fail_if_success (with_reducible refine stop_at (id := 2) ?_)); (first | go_values | go_skip | go_guarded | go_step | go_upon | go_back | (simp only [Int.not_lt, Int.not_le] at *; go_simp) | (go_values <;> (try go_simp)) | (go_ite <;> go_prune <;> (try go_simp)) | (split <;> (first | (rename_i hx; exact (hx _ rfl).elim) | go_prune))))
  have hs_ := (((HS.out.alloc (.cells #[.int .u64 3, .int .i64 1, .int .u64 2] 27)).alloc (.cells #[.int .u64 2, .int .i64 2, .int .u64 1] 27)).alloc (.cells #[.int .u64 2, .int .i64 1, .int .u64 9] 27))
  obtain ⟨w3, hw_⟩ : ∃ w3 : World, (((w.alloc (.cells #[.int .u64 3, .int .i64 1, .int .u64 2] 27)).alloc (.cells #[.int .u64 2, .int .i64 2, .int .u64 1] 27)).alloc (.cells #[.int .u64 2, .int .i64 1, .int .u64 9] 27)) = w3 := ⟨_, rfl⟩
  rw [hw_] at hs_
  try simp only [World.size_alloc] at hs_
  have HS := Lib.hid hs_
  rw [hw_]
  clear hw_ hs_
  go_wp2_with fail
  refine (identNext_any ⟨2, 7, 3⟩ (by simp [ClkT.Fits]) _).mono ?_
  rintro e w4 ⟨rfl, hb_⟩
  have HS := Lib.hid (HS.out.below hb_)
  clear hb_
  rw [w_n1.1, w_n1.2.1, w_n1.2.2]
  unfold ClkT.val IdT.val
  repeat ((fail_if_success (with_reducible refine stop_at (id := 3) ?_)); (first | go_values | go_skip | go_guarded | go_step | go_upon | go_back | (simp only [Int.not_lt, Int.not_le] at *; go_simp) | (go_values <;> (try go_simp)) | (go_ite <;> go_prune <;> (try go_simp)) | (split <;> (first | (rename_i hx; exact (hx _ rfl).elim) | go_prune))))
  have hs_ := ((HS.out.alloc (.cells #[.int .i64 2, .int .u64 8, .int .u64 4] 41)).alloc (.cells #[.int .u64 8, .int .i64 2, .int .u64 4] 27))
  obtain ⟨w5, hw_⟩ : ∃ w5 : World, ((w4.alloc (.cells #[.int .i64 2, .int .u64 8, .int .u64 4] 41)).alloc (.cells #[.int .u64 8, .int .i64 2, .int .u64 4] 27)) = w5 := ⟨_, rfl⟩
  rw [hw_] at hs_
  try simp only [World.size_alloc] at hs_
  have HS := Lib.hid hs_
  rw [hw_]
  clear hw_ hs_
  have k0 := cell_of_block (k := 0) (HS.out.blockAt 1 rfl) rfl
  have k1 := cell_of_block (k := 1) (HS.out.blockAt 1 rfl) rfl
  have k2 := cell_of_block (k := 2) (HS.out.blockAt 1 rfl) rfl
  go_wp2_with fail
  clear k0 k1 k2
  have hs_ := (HS.out.alloc (.cells #[.int .u64 5, .int .u64 20] 25))
  obtain ⟨w6, hw_⟩ : ∃ w6 : World, (w5.alloc (.cells #[.int .u64 5, .int .u64 20] 25)) = w6 := ⟨_, rfl⟩
  rw [hw_] at hs_
  try simp only [World.size_alloc] at hs_
  have HS := Lib.hid hs_
  rw [hw_]
  clear hw_ hs_
  refine (identSee_any ⟨2, 8, 4⟩ ts2 2 _ (by omega) _ (ts2_row _ _ (HS.out.blockAt 0 rfl))).mono ?_
  rintro e w7 ⟨rfl, hb_⟩
  have HS := Lib.hid (HS.out.below hb_)
  clear hb_
  rw [w_s.1, w_s.2]
  unfold ClkT.val
  have k0 := cell_of_block (k := 0) (HS.out.blockAt 2 rfl) rfl
  have k1 := cell_of_block (k := 1) (HS.out.blockAt 2 rfl) rfl
  have k2 := cell_of_block (k := 2) (HS.out.blockAt 2 rfl) rfl
  have kf := free_of_block (HS.out.blockAt 2 rfl)
  repeat ((fail_if_success (with_reducible refine stop_at (id := 4) ?_)); (first | go_values | go_skip | go_guarded | go_step | go_upon | go_back | (simp only [Int.not_lt, Int.not_le] at *; go_simp) | (go_values <;> (try go_simp)) | (go_ite <;> go_prune <;> (try go_simp)) | (split <;> (first | (rename_i hx; exact (hx _ rfl).elim) | go_prune))))
  clear k0 k1 k2 kf
  have hs_ := St.set3 (a' := .int .i64 2) (b' := .int .u64 20) (c' := .int .u64 4) (pre := [_, _]) HS.out (by intro i hi; simp at hi; rcases hi with rfl | rfl <;> exact ⟨_, _, rfl⟩)
  generalize (World.setCell (World.setCell (World.setCell w7 _ _) _ _) _ _) = w8 at hs_ ⊢
  have HS := Lib.hid hs_
  clear hs_
  try simp only [List.cons_append, List.nil_append] at HS
  have k0 := cell_of_block (k := 0) (HS.out.blockAt 2 rfl) rfl
  have k1 := cell_of_block (k := 1) (HS.out.blockAt 2 rfl) rfl
  have k2 := cell_of_block (k := 2) (HS.out.blockAt 2 rfl) rfl
  go_wp2_with fail
  refine (identNext_any ⟨2, 20, 4⟩ (by simp [ClkT.Fits]) _).mono ?_
  rintro e w9 ⟨rfl, hb_⟩
  have HS := Lib.hid (HS.out.below hb_)
  clear hb_
  clear k0 k1 k2
  rw [w_n2.1, w_n2.2.1, w_n2.2.2]
  unfold ClkT.val IdT.val
  repeat ((fail_if_success (with_reducible refine stop_at (id := 5) ?_)); (first | go_values | go_skip | go_guarded | go_step | go_upon | go_back | (simp only [Int.not_lt, Int.not_le] at *; go_simp) | (go_values <;> (try go_simp)) | (go_ite <;> go_prune <;> (try go_simp)) | (split <;> (first | (rename_i hx; exact (hx _ rfl).elim) | go_prune))))
  have hs_ := ((HS.out.alloc (.cells #[.int .i64 2, .int .u64 21, .int .u64 5] 41)).alloc (.cells #[.int .u64 21, .int .i64 2, .int .u64 5] 27))
  obtain ⟨w10, hw_⟩ : ∃ w10 : World, ((w9.alloc (.cells #[.int .i64 2, .int .u64 21, .int .u64 5] 41)).alloc (.cells #[.int .u64 21, .int .i64 2, .int .u64 5] 27)) = w10 := ⟨_, rfl⟩
  rw [hw_] at hs_
  try simp only [World.size_alloc] at hs_
  have HS := Lib.hid hs_
  rw [hw_]
  clear hw_ hs_
  go_wp2_with fail
  refine (identNext_any ⟨1, 4611686018427387904, 0⟩ (by simp [ClkT.Fits]) _).mono ?_
  rintro e w11 ⟨rfl, hb_⟩
  have HS := Lib.hid (HS.out.below hb_)
  clear hb_
  rw [w_n3.1, w_n3.2.1, w_n3.2.2]
  unfold clk0 id0 ClkT.val IdT.val
  repeat ((fail_if_success (with_reducible refine stop_at (id := 6) ?_)); (first | go_values | go_skip | go_guarded | go_step | go_upon | go_back | (simp only [Int.not_lt, Int.not_le] at *; go_simp) | (go_values <;> (try go_simp)) | (go_ite <;> go_prune <;> (try go_simp)) | (split <;> (first | (rename_i hx; exact (hx _ rfl).elim) | go_prune))))
  have hs_ := ((HS.out.alloc (.cells #[.int .i64 0, .int .u64 0, .int .u64 0] 41)).alloc (.cells #[.int .u64 0, .int .i64 0, .int .u64 0] 27))
  obtain ⟨w12, hw_⟩ : ∃ w12 : World, ((w11.alloc (.cells #[.int .i64 0, .int .u64 0, .int .u64 0] 41)).alloc (.cells #[.int .u64 0, .int .i64 0, .int .u64 0] 27)) = w12 := ⟨_, rfl⟩
  rw [hw_] at hs_
  try simp only [World.size_alloc] at hs_
  have HS := Lib.hid hs_
  rw [hw_]
  clear hw_ hs_
  go_wp2_with fail
  refine (identRead_any _ _ (HT.out.below HS.out.low)).mono ?_
  rintro e w13 ⟨⟨o, ho, rfl⟩, hb_⟩
  obtain rfl : o = some ⟨8, 2, 4⟩ := ho.unique ⟨by decide, by rw [w_text]⟩
  have HS := Lib.hid (HS.out.below hb_)
  clear hb_ ho
  unfold readVal IdT.val
  simp only [Option.getD_some, errOf, Option.isSome_some, if_true]
  repeat ((fail_if_success (with_reducible refine stop_at (id := 7) ?_)); (first | go_values | go_skip | go_guarded | go_step | go_upon | go_back | (simp only [Int.not_lt, Int.not_le] at *; go_simp) | (go_values <;> (try go_simp)) | (go_ite <;> go_prune <;> (try go_simp)) | (split <;> (first | (rename_i hx; exact (hx _ rfl).elim) | go_prune))))
  have hs_ := (HS.out.alloc (.cells #[.int .u64 8, .int .i64 2, .int .u64 4] 27))
  obtain ⟨w14, hw_⟩ : ∃ w14 : World, (w13.alloc (.cells #[.int .u64 8, .int .i64 2, .int .u64 4] 27)) = w14 := ⟨_, rfl⟩
  rw [hw_] at hs_
  try simp only [World.size_alloc] at hs_
  have HS := Lib.hid hs_
  rw [hw_]
  clear hw_ hs_
  refine (wpIn_wide (n := 0)).1 ?_
  apply wp_region_vals 62 (Rl := [(eqv _), (eqv _), (eqv _), (eqv _), (eqv _), (eqv _), (eqv _), (eqv _), (eqv _), (eqv _), (eqv _), (eqv _), (eqv _), (eqv _), (eqv _), (eqv _), (eqv _), (eqv _), (eqv _), (eqv _), (eqv _), (eqv _), (fun v_ w_ => ∃ q, v_ = .slice (some ⟨q, 0, none⟩) 3 3 ∧ w_.heap[q]? = some (.cells #[.int .u64 3, .int .i64 1, .int .u64 2, .int .u64 2, .int .i64 2, .int .u64 1, .int .u64 2, .int .i64 1, .int .u64 9] 27 (0, 0))), (fun v_ w_ => Elems w_ v_ 3 3 (rowC encId [⟨2, 1, 9⟩, ⟨2, 2, 1⟩, ⟨3, 1, 2⟩])), (eqv _), (eqv _), (eqv _), (fun v_ w_ => ∃ q, v_ = .slice (some ⟨q, 0, none⟩) 3 3 ∧ w_.heap[q]? = some (.cells #[.int .u64 2, .int .i64 1, .int .u64 9, .int .u64 2, .int .i64 2, .int .u64 1, .int .u64 3, .int .i64 1, .int .u64 2] 27 (0, 0))), (eqv _), (eqv _), (eqv _), (eqv _), (eqv _), (eqv _), (eqv _), (eqv _), (eqv _), (eqv _), (eqv _), (eqv _), (eqv _), (eqv _), (eqv _), (eqv _), (eqv _), (eqv _), (eqv _), (eqv _), (eqv _), (eqv _), (eqv _), (eqv _), (eqv _), (eqv _), (eqv _), (eqv _), (eqv _), (eqv _), (eqv _), (eqv _), (eqv _), (eqv _)]) (C := (fun x y => Below x.heap.size x y))
  case hm => kernel_rfl
  case hk => rfl
  case hCr => exact (fun _ => Below.refl _ _)
  case hCt => intro _ _ _; exact (fun h k => grows_trans h k)
  case hst => exact ⟨fun _ _ _ _ h => h, fun _ _ _ _ h => h, fun _ _ _ _ h => h, fun _ _ _ _ h => h, fun _ _ _ _ h => h, fun _ _ _ _ h => h, fun _ _ _ _ h => h, fun _ _ _ _ h => h, fun _ _ _ _ h => h, fun _ _ _ _ h => h, fun _ _ _ _ h => h, fun _ _ _ _ h => h, fun _ _ _ _ h => h, fun _ _ _ _ h => h, fun _ _ _ _ h => h, fun _ _ _ _ h => h, fun _ _ _ _ h => h, fun _ _ _ _ h => h, fun _ _ _ _ h => h, fun _ _ _ _ h => h, fun _ _ _ _ h => h, fun _ _ _ _ h => h, fun _ _ _ hC ⟨q, e, h⟩ => ⟨q, e, (hC.block _ (block_lt h)).trans h⟩, fun _ _ _ hC h => h.below hC, fun _ _ _ _ h => h, fun _ _ _ _ h => h, fun _ _ _ _ h => h, fun _ _ _ hC ⟨q, e, h⟩ => ⟨q, e, (hC.block _ (block_lt h)).trans h⟩, fun _ _ _ _ h => h, fun _ _ _ _ h => h, fun _ _ _ _ h => h, fun _ _ _ _ h => h, fun _ _ _ _ h => h, fun _ _ _ _ h => h, fun _ _ _ _ h => h, fun _ _ _ _ h => h, fun _ _ _ _ h => h, fun _ _ _ _ h => h, fun _ _ _ _ h => h, fun _ _ _ _ h => h, fun _ _ _ _ h => h, fun _ _ _ _ h => h, fun _ _ _ _ h => h, fun _ _ _ _ h => h, fun _ _ _ _ h => h, fun _ _ _ _ h => h, fun _ _ _ _ h => h, fun _ _ _ _ h => h, fun _ _ _ _ h => h, fun _ _ _ _ h => h, fun _ _ _ _ h => h, fun _ _ _ _ h => h, fun _ _ _ _ h => h, fun _ _ _ _ h => h, fun _ _ _ _ h => h, fun _ _ _ _ h => h, fun _ _ _ _ h => h, fun _ _ _ _ h => h, fun _ _ _ _ h => h, fun _ _ _ _ h => h, fun _ _ _ _ h => h, fun _ _ _ _ h => h, trivial⟩
  case hfo => kernel_rfl
  case ht => kernel_rfl
  case hC0 => exact (grows_drew _)
  case hsteps =>
    refine ⟨?_, ?_, ?_, ?_, ?_, ?_, ?_, ?_, ?_, ?_, ?_, ?_, ?_, ?_, ?_, ?_, ?_, ?_, ?_, ?_, ?_, ?_, ?_, ?_, ?_, ?_, ?_, ?_, ?_, ?_, ?_, ?_, ?_, ?_, ?_, ?_, ?_, ?_, ?_, ?_, ?_, ?_, ?_, ?_, ?_, ?_, ?_, ?_, ?_, ?_, ?_, ?_, ?_, ?_, ?_, ?_, ?_, ?_, ?_, ?_, ?_, ?_, trivial⟩
    · -- 0
      intro a' w' hA hC hD
      have s6 : a'.tmps[6]? = some _ := (hA.at 6 (by kernel_rfl)).trans rfl
      clear hA hD
      refine stepOk_plain rfl ?_
      intro K hK
      gi_wp2
      exact hK _ _ rfl ((fun _ => Below.refl _ _) _)
    · -- 1
      intro a' w' hA hC hD
      obtain ⟨u47, s47, r47⟩ := hD ⟨0, .data⟩ (by simp) rfl _ rfl
      replace r47 : u47 = _ := r47
      subst r47
      clear hA hD
      refine stepOk_plain rfl ?_
      intro K hK
      gi_wp2
      exact hK _ _ rfl ((fun _ => Below.refl _ _) _)
    · -- 2
      intro a' w' hA hC hD
      obtain ⟨u48, s48, r48⟩ := hD ⟨1, .data⟩ (by simp) rfl _ rfl
      replace r48 : u48 = _ := r48
      subst r48
      clear hA hD
      refine stepOk_plain rfl ?_
      intro K hK
      gi_wp2
      exact hK _ _ rfl ((fun _ => Below.refl _ _) _)
    · -- 3
      intro a' w' hA hC hD
      have s7 : a'.tmps[7]? = some _ := (hA.at 7 (by kernel_rfl)).trans rfl
      obtain ⟨u49, s49, r49⟩ := hD ⟨2, .guard⟩ (by simp) rfl _ rfl
      replace r49 : u49 = _ := r49
      subst r49
      clear hA hD
      refine stepOk_want rfl rfl s49 ?_
      intro K hK
      gi_wp2
      exact hK _ _ rfl ((fun _ => Below.refl _ _) _)
    · -- 4
      intro a' w' hA hC hD
      obtain ⟨u50, s50, r50⟩ := hD ⟨3, .data⟩ (by simp) rfl _ rfl
      replace r50 : u50 = _ := r50
      subst r50
      obtain ⟨u49, s49, r49⟩ := hD ⟨2, .guard⟩ (by simp) rfl _ rfl
      replace r49 : u49 = _ := r49
      subst r49
      clear hA hD
      refine stepOk_want rfl rfl s49 ?_
      intro K hK
      gi_wp2
      exact hK _ _ rfl ((fun _ => Below.refl _ _) _)
    · -- 5
      intro a' w' hA hC hD
      obtain ⟨u49, s49, r49⟩ := hD ⟨2, .data⟩ (by simp) rfl _ rfl
      replace r49 : u49 = _ := r49
      subst r49
      obtain ⟨u51, s51, r51⟩ := hD ⟨4, .data⟩ (by simp) rfl _ rfl
      replace r51 : u51 = _ := r51
      subst r51
      clear hA hD
      refine stepOk_plain rfl ?_
      intro K hK
      gi_wp2
      exact hK _ _ rfl ((fun _ => Below.refl _ _) _)
    · -- 6
      intro a' w' hA hC hD
      obtain ⟨u52, s52, r52⟩ := hD ⟨5, .data⟩ (by simp) rfl _ rfl
      replace r52 : u52 = _ := r52
      subst r52
      clear hA hD
      refine stepOk_plain rfl ?_
      intro K hK
      gi_wp2
      exact hK _ _ rfl ((fun _ => Below.refl _ _) _)
    · -- 7
      intro a' w' hA hC hD
      have s10 : a'.tmps[10]? = some _ := (hA.at 10 (by kernel_rfl)).trans rfl
      obtain ⟨u53, s53, r53⟩ := hD ⟨6, .guard⟩ (by simp) rfl _ rfl
      replace r53 : u53 = _ := r53
      subst r53
      clear hA hD
      refine stepOk_want rfl rfl s53 ?_
      intro K hK
      gi_wp2
      exact hK _ _ rfl ((fun _ => Below.refl _ _) _)
    · -- 8
      intro a' w' hA hC hD
      obtain ⟨u54, s54, r54⟩ := hD ⟨7, .data⟩ (by simp) rfl _ rfl
      replace r54 : u54 = _ := r54
      subst r54
      obtain ⟨u53, s53, r53⟩ := hD ⟨6, .guard⟩ (by simp) rfl _ rfl
      replace r53 : u53 = _ := r53
      subst r53
      clear hA hD
      refine stepOk_want rfl rfl s53 ?_
      intro K hK
      gi_wp2
      exact hK _ _ rfl ((fun _ => Below.refl _ _) _)
    · -- 9
      intro a' w' hA hC hD
      obtain ⟨u53, s53, r53⟩ := hD ⟨6, .data⟩ (by simp) rfl _ rfl
      replace r53 : u53 = _ := r53
      subst r53
      obtain ⟨u55, s55, r55⟩ := hD ⟨8, .data⟩ (by simp) rfl _ rfl
      replace r55 : u55 = _ := r55
      subst r55
      clear hA hD
      refine stepOk_plain rfl ?_
      intro K hK
      gi_wp2
      exact hK _ _ rfl ((fun _ => Below.refl _ _) _)
    · -- 10
      intro a' w' hA hC hD
      obtain ⟨u56, s56, r56⟩ := hD ⟨9, .data⟩ (by simp) rfl _ rfl
      replace r56 : u56 = _ := r56
      subst r56
      clear hA hD
      refine stepOk_plain rfl ?_
      intro K hK
      gi_wp2
      exact hK _ _ rfl ((fun _ => Below.refl _ _) _)
    · -- 11
      intro a' w' hA hC hD
      have s15 : a'.tmps[15]? = some _ := (hA.at 15 (by kernel_rfl)).trans rfl
      obtain ⟨u57, s57, r57⟩ := hD ⟨10, .guard⟩ (by simp) rfl _ rfl
      replace r57 : u57 = _ := r57
      subst r57
      clear hA hD
      refine stepOk_want rfl rfl s57 ?_
      intro K hK
      gi_wp2
      exact hK _ _ rfl ((fun _ => Below.refl _ _) _)
    · -- 12
      intro a' w' hA hC hD
      obtain ⟨u58, s58, r58⟩ := hD ⟨11, .data⟩ (by simp) rfl _ rfl
      replace r58 : u58 = _ := r58
      subst r58
      obtain ⟨u57, s57, r57⟩ := hD ⟨10, .guard⟩ (by simp) rfl _ rfl
      replace r57 : u57 = _ := r57
      subst r57
      clear hA hD
      refine stepOk_want rfl rfl s57 ?_
      intro K hK
      gi_wp2
      exact hK _ _ rfl ((fun _ => Below.refl _ _) _)
    · -- 13
      intro a' w' hA hC hD
      obtain ⟨u57, s57, r57⟩ := hD ⟨10, .data⟩ (by simp) rfl _ rfl
      replace r57 : u57 = _ := r57
      subst r57
      obtain ⟨u59, s59, r59⟩ := hD ⟨12, .data⟩ (by simp) rfl _ rfl
      replace r59 : u59 = _ := r59
      subst r59
      clear hA hD
      refine stepOk_plain rfl ?_
      intro K hK
      gi_wp2
      exact hK _ _ rfl ((fun _ => Below.refl _ _) _)
    · -- 14
      intro a' w' hA hC hD
      obtain ⟨u60, s60, r60⟩ := hD ⟨13, .data⟩ (by simp) rfl _ rfl
      replace r60 : u60 = _ := r60
      subst r60
      clear hA hD
      refine stepOk_plain rfl ?_
      intro K hK
      gi_wp2
      exact hK _ _ rfl ((fun _ => Below.refl _ _) _)
    · -- 15
      intro a' w' hA hC hD
      have s13 : a'.tmps[13]? = some _ := (hA.at 13 (by kernel_rfl)).trans rfl
      obtain ⟨u61, s61, r61⟩ := hD ⟨14, .guard⟩ (by simp) rfl _ rfl
      replace r61 : u61 = _ := r61
      subst r61
      clear hA hD
      refine stepOk_want rfl rfl s61 ?_
      intro K hK
      gi_wp2
      exact hK _ _ rfl ((fun _ => Below.refl _ _) _)
    · -- 16
      intro a' w' hA hC hD
      obtain ⟨u62, s62, r62⟩ := hD ⟨15, .data⟩ (by simp) rfl _ rfl
      replace r62 : u62 = _ := r62
      subst r62
      obtain ⟨u61, s61, r61⟩ := hD ⟨14, .guard⟩ (by simp) rfl _ rfl
      replace r61 : u61 = _ := r61
      subst r61
      clear hA hD
      refine stepOk_want rfl rfl s61 ?_
      intro K hK
      gi_wp2
      exact hK _ _ rfl ((fun _ => Below.refl _ _) _)
    · -- 17
      intro a' w' hA hC hD
      obtain ⟨u61, s61, r61⟩ := hD ⟨14, .data⟩ (by simp) rfl _ rfl
      replace r61 : u61 = _ := r61
      subst r61
      obtain ⟨u63, s63, r63⟩ := hD ⟨16, .data⟩ (by simp) rfl _ rfl
      replace r63 : u63 = _ := r63
      subst r63
      clear hA hD
      refine stepOk_plain rfl ?_
      intro K hK
      gi_wp2
      exact hK _ _ rfl ((fun _ => Below.refl _ _) _)
    · -- 18
      intro a' w' hA hC hD
      obtain ⟨u64, s64, r64⟩ := hD ⟨17, .data⟩ (by simp) rfl _ rfl
      replace r64 : u64 = _ := r64
      subst r64
      clear hA hD
      refine stepOk_plain rfl ?_
      intro K hK
      gi_wp2
      exact hK _ _ rfl ((fun _ => Below.refl _ _) _)
    · -- 19
      intro a' w' hA hC hD
      have s1 : a'.tmps[1]? = some _ := (hA.at 1 (by kernel_rfl)).trans rfl
      obtain ⟨u65, s65, r65⟩ := hD ⟨18, .guard⟩ (by simp) rfl _ rfl
      replace r65 : u65 = _ := r65
      subst r65
      have h1_ := (HS.out.below hC).blockAt 10 rfl; have c1_0 := cell_of_block (k := 0) h1_ rfl; have c1_1 := cell_of_block (k := 1) h1_ rfl; have c1_2 := cell_of_block (k := 2) h1_ rfl; clear h1_
      clear hA hD
      refine stepOk_want rfl rfl s65 ?_
      intro K hK
      gi_wp2
      exact hK _ _ rfl ((fun _ => Below.refl _ _) _)
    · -- 20
      intro a' w' hA hC hD
      have s2 : a'.tmps[2]? = some _ := (hA.at 2 (by kernel_rfl)).trans rfl
      obtain ⟨u65, s65, r65⟩ := hD ⟨18, .guard⟩ (by simp) rfl _ rfl
      replace r65 : u65 = _ := r65
      subst r65
      have h1_ := (HS.out.below hC).blockAt 9 rfl; have c1_0 := cell_of_block (k := 0) h1_ rfl; have c1_1 := cell_of_block (k := 1) h1_ rfl; have c1_2 := cell_of_block (k := 2) h1_ rfl; clear h1_
      clear hA hD
      refine stepOk_want rfl rfl s65 ?_
      intro K hK
      gi_wp2
      exact hK _ _ rfl ((fun _ => Below.refl _ _) _)
    · -- 21
      intro a' w' hA hC hD
      have s3 : a'.tmps[3]? = some _ := (hA.at 3 (by kernel_rfl)).trans rfl
      obtain ⟨u65, s65, r65⟩ := hD ⟨18, .guard⟩ (by simp) rfl _ rfl
      replace r65 : u65 = _ := r65
      subst r65
      have h1_ := (HS.out.below hC).blockAt 8 rfl; have c1_0 := cell_of_block (k := 0) h1_ rfl; have c1_1 := cell_of_block (k := 1) h1_ rfl; have c1_2 := cell_of_block (k := 2) h1_ rfl; clear h1_
      clear hA hD
      refine stepOk_want rfl rfl s65 ?_
      intro K hK
      gi_wp2
      exact hK _ _ rfl ((fun _ => Below.refl _ _) _)
    · -- 22
      intro a' w' hA hC hD
      obtain ⟨u66, s66, r66⟩ := hD ⟨19, .data⟩ (by simp) rfl _ rfl
      replace r66 : u66 = _ := r66
      subst r66
      obtain ⟨u67, s67, r67⟩ := hD ⟨20, .data⟩ (by simp) rfl _ rfl
      replace r67 : u67 = _ := r67
      subst r67
      obtain ⟨u68, s68, r68⟩ := hD ⟨21, .data⟩ (by simp) rfl _ rfl
      replace r68 : u68 = _ := r68
      subst r68
      obtain ⟨u65, s65, r65⟩ := hD ⟨18, .guard⟩ (by simp) rfl _ rfl
      replace r65 : u65 = _ := r65
      subst r65
      clear hA hD
      refine stepOk_want rfl rfl s65 ?_
      intro K hK
      gi_wp2
      exact hK (.slice (some ⟨w'.heap.size, 0, none⟩) 3 3) _ ⟨w'.heap.size, rfl, World.alloc_heap_new _ _⟩ ((Below.refl _ _).alloc (Nat.le_refl _) _)
    · -- 23
      intro a' w' hA hC hD
      obtain ⟨u69, s69, r69⟩ := hD ⟨22, .data⟩ (by simp) rfl _ rfl
      replace r69 : (fun v_ w_ => ∃ q, v_ = .slice (some ⟨q, 0, none⟩) 3 3 ∧ w_.heap[q]? = some (.cells #[.int .u64 3, .int .i64 1, .int .u64 2, .int .u64 2, .int .i64 2, .int .u64 1, .int .u64 2, .int .i64 1, .int .u64 9] 27 (0, 0))) u69 w' := r69
      obtain ⟨u65, s65, r65⟩ := hD ⟨18, .chain⟩ (by simp) rfl _ rfl
      replace r65 : u65 = _ := r65
      subst r65
      clear hA hD
      refine stepOk_want rfl rfl s65 ?_
      intro K hK
      obtain ⟨q, rfl, hq⟩ := r69; gi_wp2_with fail; refine (callsIn_wide.2 (sorted_any _ [⟨3, 1, 2⟩, ⟨2, 2, 1⟩, ⟨2, 1, 9⟩] _ (ids3 hq) (by decide))).mono ?_; rintro e w2 ⟨v, rfl, hrow, hb⟩
      exact hK v _ (by rw [w_sort] at hrow; exact ownsRow_rows encId_len hrow) hb
    · -- 24
      intro a' w' hA hC hD
      have s3 : a'.tmps[3]? = some _ := (hA.at 3 (by kernel_rfl)).trans rfl
      obtain ⟨u65, s65, r65⟩ := hD ⟨18, .guard⟩ (by simp) rfl _ rfl
      replace r65 : u65 = _ := r65
      subst r65
      have h1_ := (HS.out.below hC).blockAt 8 rfl; have c1_0 := cell_of_block (k := 0) h1_ rfl; have c1_1 := cell_of_block (k := 1) h1_ rfl; have c1_2 := cell_of_block (k := 2) h1_ rfl; clear h1_
      clear hA hD
      refine stepOk_want rfl rfl s65 ?_
      intro K hK
      gi_wp2
      exact hK _ _ rfl ((fun _ => Below.refl _ _) _)
    · -- 25
      intro a' w' hA hC hD
      have s2 : a'.tmps[2]? = some _ := (hA.at 2 (by kernel_rfl)).trans rfl
      obtain ⟨u65, s65, r65⟩ := hD ⟨18, .guard⟩ (by simp) rfl _ rfl
      replace r65 : u65 = _ := r65
      subst r65
      have h1_ := (HS.out.below hC).blockAt 9 rfl; have c1_0 := cell_of_block (k := 0) h1_ rfl; have c1_1 := cell_of_block (k := 1) h1_ rfl; have c1_2 := cell_of_block (k := 2) h1_ rfl; clear h1_
      clear hA hD
      refine stepOk_want rfl rfl s65 ?_
      intro K hK
      gi_wp2
      exact hK _ _ rfl ((fun _ => Below.refl _ _) _)
    · -- 26
      intro a' w' hA hC hD
      have s1 : a'.tmps[1]? = some _ := (hA.at 1 (by kernel_rfl)).trans rfl
      obtain ⟨u65, s65, r65⟩ := hD ⟨18, .guard⟩ (by simp) rfl _ rfl
      replace r65 : u65 = _ := r65
      subst r65
      have h1_ := (HS.out.below hC).blockAt 10 rfl; have c1_0 := cell_of_block (k := 0) h1_ rfl; have c1_1 := cell_of_block (k := 1) h1_ rfl; have c1_2 := cell_of_block (k := 2) h1_ rfl; clear h1_
      clear hA hD
      refine stepOk_want rfl rfl s65 ?_
      intro K hK
      gi_wp2
      exact hK _ _ rfl ((fun _ => Below.refl _ _) _)
    · -- 27
      intro a' w' hA hC hD
      obtain ⟨u71, s71, r71⟩ := hD ⟨24, .data⟩ (by simp) rfl _ rfl
      replace r71 : u71 = _ := r71
      subst r71
      obtain ⟨u72, s72, r72⟩ := hD ⟨25, .data⟩ (by simp) rfl _ rfl
      replace r72 : u72 = _ := r72
      subst r72
      obtain ⟨u73, s73, r73⟩ := hD ⟨26, .data⟩ (by simp) rfl _ rfl
      replace r73 : u73 = _ := r73
      subst r73
      obtain ⟨u65, s65, r65⟩ := hD ⟨18, .guard⟩ (by simp) rfl _ rfl
      replace r65 : u65 = _ := r65
      subst r65
      clear hA hD
      refine stepOk_want rfl rfl s65 ?_
      intro K hK
      gi_wp2
      exact hK (.slice (some ⟨w'.heap.size, 0, none⟩) 3 3) _ ⟨w'.heap.size, rfl, World.alloc_heap_new _ _⟩ ((Below.refl _ _).alloc (Nat.le_refl _) _)
    · -- 28
      intro a' w' hA hC hD
      obtain ⟨u70, s70, r70⟩ := hD ⟨23, .data⟩ (by simp) rfl _ rfl
      replace r70 : (fun v_ w_ => Elems w_ v_ 3 3 (rowC encId [⟨2, 1, 9⟩, ⟨2, 2, 1⟩, ⟨3, 1, 2⟩])) u70 w' := r70
      obtain ⟨u74, s74, r74⟩ := hD ⟨27, .data⟩ (by simp) rfl _ rfl
      replace r74 : (fun v_ w_ => ∃ q, v_ = .slice (some ⟨q, 0, none⟩) 3 3 ∧ w_.heap[q]? = some (.cells #[.int .u64 2, .int .i64 1, .int .u64 9, .int .u64 2, .int .i64 2, .int .u64 1, .int .u64 3, .int .i64 1, .int .u64 2] 27 (0, 0))) u74 w' := r74
      obtain ⟨u65, s65, r65⟩ := hD ⟨18, .guard⟩ (by simp) rfl _ rfl
      replace r65 : u65 = _ := r65
      subst r65
      clear hA hD
      refine stepOk_want rfl rfl s65 ?_
      intro K hK
      obtain ⟨q, rfl, hq⟩ := r74; gi_wp2_with fail; refine (callsIn_wide.2 (eqId_any _ _ [⟨2, 1, 9⟩, ⟨2, 2, 1⟩, ⟨3, 1, 2⟩] [⟨2, 1, 9⟩, ⟨2, 2, 1⟩, ⟨3, 1, 2⟩] _ r70 (ids3 hq) (by decide))).mono ?_; rintro e w2 ⟨rfl, hb⟩; rw [w_same]; exact hK _ _ rfl hb
    · -- 29
      intro a' w' hA hC hD
      obtain ⟨u65, s65, r65⟩ := hD ⟨18, .data⟩ (by simp) rfl _ rfl
      replace r65 : u65 = _ := r65
      subst r65
      obtain ⟨u75, s75, r75⟩ := hD ⟨28, .data⟩ (by simp) rfl _ rfl
      replace r75 : u75 = _ := r75
      subst r75
      clear hA hD
      refine stepOk_plain rfl ?_
      intro K hK
      gi_wp2
      exact hK _ _ rfl ((fun _ => Below.refl _ _) _)
    · -- 30
      intro a' w' hA hC hD
      obtain ⟨u76, s76, r76⟩ := hD ⟨29, .data⟩ (by simp) rfl _ rfl
      replace r76 : u76 = _ := r76
      subst r76
      clear hA hD
      refine stepOk_plain rfl ?_
      intro K hK
      gi_wp2
      exact hK _ _ rfl ((fun _ => Below.refl _ _) _)
    · -- 31
      intro a' w' hA hC hD
      have s5 : a'.tmps[5]? = some _ := (hA.at 5 (by kernel_rfl)).trans rfl
      obtain ⟨u77, s77, r77⟩ := hD ⟨30, .guard⟩ (by simp) rfl _ rfl
      replace r77 : u77 = _ := r77
      subst r77
      have h1_ := (HS.out.below hC).blockAt 6 rfl; have c1_0 := cell_of_block (k := 0) h1_ rfl; have c1_1 := cell_of_block (k := 1) h1_ rfl; have c1_2 := cell_of_block (k := 2) h1_ rfl; clear h1_
      clear hA hD
      refine stepOk_want rfl rfl s77 ?_
      intro K hK
      gi_wp2
      exact hK _ _ rfl ((fun _ => Below.refl _ _) _)
    · -- 32
      intro a' w' hA hC hD
      obtain ⟨u77, s77, r77⟩ := hD ⟨30, .guard⟩ (by simp) rfl _ rfl
      replace r77 : u77 = _ := r77
      subst r77
      clear hA hD
      refine stepOk_want rfl rfl s77 ?_
      intro K hK
      gi_wp2
      exact hK _ _ rfl ((fun _ => Below.refl _ _) _)
    · -- 33
      intro a' w' hA hC hD
      obtain ⟨u78, s78, r78⟩ := hD ⟨31, .data⟩ (by simp) rfl _ rfl
      replace r78 : u78 = _ := r78
      subst r78
      obtain ⟨u79, s79, r79⟩ := hD ⟨32, .data⟩ (by simp) rfl _ rfl
      replace r79 : u79 = _ := r79
      subst r79
      obtain ⟨u77, s77, r77⟩ := hD ⟨30, .guard⟩ (by simp) rfl _ rfl
      replace r77 : u77 = _ := r77
      subst r77
      have hr := w_eq 8 2 4
      clear hA hD
      refine stepOk_want rfl rfl s77 ?_
      intro K hK
      gi_wp2
      exact hK _ _ rfl ((fun _ => Below.refl _ _) _)
    · -- 34
      intro a' w' hA hC hD
      obtain ⟨u77, s77, r77⟩ := hD ⟨30, .data⟩ (by simp) rfl _ rfl
      replace r77 : u77 = _ := r77
      subst r77
      obtain ⟨u80, s80, r80⟩ := hD ⟨33, .data⟩ (by simp) rfl _ rfl
      replace r80 : u80 = _ := r80
      subst r80
      clear hA hD
      refine stepOk_plain rfl ?_
      intro K hK
      gi_wp2
      exact hK _ _ rfl ((fun _ => Below.refl _ _) _)
    · -- 35
      intro a' w' hA hC hD
      obtain ⟨u81, s81, r81⟩ := hD ⟨34, .data⟩ (by simp) rfl _ rfl
      replace r81 : u81 = _ := r81
      subst r81
      clear hA hD
      refine stepOk_plain rfl ?_
      intro K hK
      gi_wp2
      exact hK _ _ rfl ((fun _ => Below.refl _ _) _)
    · -- 36
      intro a' w' hA hC hD
      have s9 : a'.tmps[9]? = some _ := (hA.at 9 (by kernel_rfl)).trans rfl
      obtain ⟨u82, s82, r82⟩ := hD ⟨35, .guard⟩ (by simp) rfl _ rfl
      replace r82 : u82 = _ := r82
      subst r82
      have h1_ := (HS.out.below hC).blockAt 3 rfl; have c1_0 := cell_of_block (k := 0) h1_ rfl; have c1_1 := cell_of_block (k := 1) h1_ rfl; have c1_2 := cell_of_block (k := 2) h1_ rfl; clear h1_
      clear hA hD
      refine stepOk_want rfl rfl s82 ?_
      intro K hK
      gi_wp2
      exact hK _ _ rfl ((fun _ => Below.refl _ _) _)
    · -- 37
      intro a' w' hA hC hD
      obtain ⟨u82, s82, r82⟩ := hD ⟨35, .guard⟩ (by simp) rfl _ rfl
      replace r82 : u82 = _ := r82
      subst r82
      clear hA hD
      refine stepOk_want rfl rfl s82 ?_
      intro K hK
      gi_wp2
      exact hK _ _ rfl ((fun _ => Below.refl _ _) _)
    · -- 38
      intro a' w' hA hC hD
      obtain ⟨u83, s83, r83⟩ := hD ⟨36, .data⟩ (by simp) rfl _ rfl
      replace r83 : u83 = _ := r83
      subst r83
      obtain ⟨u84, s84, r84⟩ := hD ⟨37, .data⟩ (by simp) rfl _ rfl
      replace r84 : u84 = _ := r84
      subst r84
      obtain ⟨u82, s82, r82⟩ := hD ⟨35, .guard⟩ (by simp) rfl _ rfl
      replace r82 : u82 = _ := r82
      subst r82
      have hr := w_eq 21 2 5
      clear hA hD
      refine stepOk_want rfl rfl s82 ?_
      intro K hK
      gi_wp2
      exact hK _ _ rfl ((fun _ => Below.refl _ _) _)
    · -- 39
      intro a' w' hA hC hD
      obtain ⟨u82, s82, r82⟩ := hD ⟨35, .data⟩ (by simp) rfl _ rfl
      replace r82 : u82 = _ := r82
      subst r82
      obtain ⟨u85, s85, r85⟩ := hD ⟨38, .data⟩ (by simp) rfl _ rfl
      replace r85 : u85 = _ := r85
      subst r85
      clear hA hD
      refine stepOk_plain rfl ?_
      intro K hK
      gi_wp2
      exact hK _ _ rfl ((fun _ => Below.refl _ _) _)
    · -- 40
      intro a' w' hA hC hD
      obtain ⟨u86, s86, r86⟩ := hD ⟨39, .data⟩ (by simp) rfl _ rfl
      replace r86 : u86 = _ := r86
      subst r86
      clear hA hD
      refine stepOk_plain rfl ?_
      intro K hK
      gi_wp2
      exact hK _ _ rfl ((fun _ => Below.refl _ _) _)
    · -- 41
      intro a' w' hA hC hD
      have s14 : a'.tmps[14]? = some _ := (hA.at 14 (by kernel_rfl)).trans rfl
      obtain ⟨u87, s87, r87⟩ := hD ⟨40, .guard⟩ (by simp) rfl _ rfl
      replace r87 : u87 = _ := r87
      subst r87
      have h1_ := (HS.out.below hC).blockAt 0 rfl; have c1_0 := cell_of_block (k := 0) h1_ rfl; have c1_1 := cell_of_block (k := 1) h1_ rfl; have c1_2 := cell_of_block (k := 2) h1_ rfl; clear h1_
      clear hA hD
      refine stepOk_want rfl rfl s87 ?_
      intro K hK
      gi_wp2
      exact hK _ _ rfl ((fun _ => Below.refl _ _) _)
    · -- 42
      intro a' w' hA hC hD
      have s5 : a'.tmps[5]? = some _ := (hA.at 5 (by kernel_rfl)).trans rfl
      obtain ⟨u87, s87, r87⟩ := hD ⟨40, .guard⟩ (by simp) rfl _ rfl
      replace r87 : u87 = _ := r87
      subst r87
      have h1_ := (HS.out.below hC).blockAt 6 rfl; have c1_0 := cell_of_block (k := 0) h1_ rfl; have c1_1 := cell_of_block (k := 1) h1_ rfl; have c1_2 := cell_of_block (k := 2) h1_ rfl; clear h1_
      clear hA hD
      refine stepOk_want rfl rfl s87 ?_
      intro K hK
      gi_wp2
      exact hK _ _ rfl ((fun _ => Below.refl _ _) _)
    · -- 43
      intro a' w' hA hC hD
      obtain ⟨u88, s88, r88⟩ := hD ⟨41, .data⟩ (by simp) rfl _ rfl
      replace r88 : u88 = _ := r88
      subst r88
      obtain ⟨u89, s89, r89⟩ := hD ⟨42, .data⟩ (by simp) rfl _ rfl
      replace r89 : u89 = _ := r89
      subst r89
      obtain ⟨u87, s87, r87⟩ := hD ⟨40, .guard⟩ (by simp) rfl _ rfl
      replace r87 : u87 = _ := r87
      subst r87
      have hr := w_eq 8 2 4
      clear hA hD
      refine stepOk_want rfl rfl s87 ?_
      intro K hK
      gi_wp2
      exact hK _ _ rfl ((fun _ => Below.refl _ _) _)
    · -- 44
      intro a' w' hA hC hD
      obtain ⟨u87, s87, r87⟩ := hD ⟨40, .data⟩ (by simp) rfl _ rfl
      replace r87 : u87 = _ := r87
      subst r87
      obtain ⟨u90, s90, r90⟩ := hD ⟨43, .data⟩ (by simp) rfl _ rfl
      replace r90 : u90 = _ := r90
      subst r90
      clear hA hD
      refine stepOk_plain rfl ?_
      intro K hK
      gi_wp2
      exact hK _ _ rfl ((fun _ => Below.refl _ _) _)
    · -- 45
      intro a' w' hA hC hD
      obtain ⟨u91, s91, r91⟩ := hD ⟨44, .data⟩ (by simp) rfl _ rfl
      replace r91 : u91 = _ := r91
      subst r91
      clear hA hD
      refine stepOk_plain rfl ?_
      intro K hK
      gi_wp2
      exact hK _ _ rfl ((fun _ => Below.refl _ _) _)
    · -- 46
      intro a' w' hA hC hD
      have s5 : a'.tmps[5]? = some _ := (hA.at 5 (by kernel_rfl)).trans rfl
      obtain ⟨u92, s92, r92⟩ := hD ⟨45, .guard⟩ (by simp) rfl _ rfl
      replace r92 : u92 = _ := r92
      subst r92
      have h1_ := (HS.out.below hC).blockAt 6 rfl; have c1_0 := cell_of_block (k := 0) h1_ rfl; have c1_1 := cell_of_block (k := 1) h1_ rfl; have c1_2 := cell_of_block (k := 2) h1_ rfl; clear h1_
      clear hA hD
      refine stepOk_want rfl rfl s92 ?_
      intro K hK
      gi_wp2
      exact hK _ _ rfl ((fun _ => Below.refl _ _) _)
    · -- 47
      intro a' w' hA hC hD
      obtain ⟨u93, s93, r93⟩ := hD ⟨46, .data⟩ (by simp) rfl _ rfl
      replace r93 : u93 = _ := r93
      subst r93
      obtain ⟨u92, s92, r92⟩ := hD ⟨45, .chain⟩ (by simp) rfl _ rfl
      replace r92 : u92 = _ := r92
      subst r92
      clear hA hD
      refine stepOk_want rfl rfl s92 ?_
      intro K hK
      gi_wp2_with fail; refine (callsIn_wide.2 (text_any ⟨8, 2, 4⟩ (by simp [IdT.Fits]) _ (HT.out.below (HS.out.below hC).low))).mono ?_; rintro e w2 ⟨rfl, hb⟩; rw [w_str]
      exact hK _ _ rfl hb
    · -- 48
      intro a' w' hA hC hD
      obtain ⟨u94, s94, r94⟩ := hD ⟨47, .data⟩ (by simp) rfl _ rfl
      replace r94 : u94 = _ := r94
      subst r94
      obtain ⟨u92, s92, r92⟩ := hD ⟨45, .guard⟩ (by simp) rfl _ rfl
      replace r92 : u92 = _ := r92
      subst r92
      clear hA hD
      refine stepOk_want rfl rfl s92 ?_
      intro K hK
      gi_wp2
      exact hK _ _ rfl ((fun _ => Below.refl _ _) _)
    · -- 49
      intro a' w' hA hC hD
      obtain ⟨u92, s92, r92⟩ := hD ⟨45, .data⟩ (by simp) rfl _ rfl
      replace r92 : u92 = _ := r92
      subst r92
      obtain ⟨u95, s95, r95⟩ := hD ⟨48, .data⟩ (by simp) rfl _ rfl
      replace r95 : u95 = _ := r95
      subst r95
      clear hA hD
      refine stepOk_plain rfl ?_
      intro K hK
      gi_wp2
      exact hK _ _ rfl ((fun _ => Below.refl _ _) _)
    · -- 50
      intro a' w' hA hC hD
      obtain ⟨u96, s96, r96⟩ := hD ⟨49, .data⟩ (by simp) rfl _ rfl
      replace r96 : u96 = _ := r96
      subst r96
      clear hA hD
      refine stepOk_plain rfl ?_
      intro K hK
      gi_wp2
      exact hK _ _ rfl ((fun _ => Below.refl _ _) _)
    · -- 51
      intro a' w' hA hC hD
      have s3 : a'.tmps[3]? = some _ := (hA.at 3 (by kernel_rfl)).trans rfl
      obtain ⟨u97, s97, r97⟩ := hD ⟨50, .guard⟩ (by simp) rfl _ rfl
      replace r97 : u97 = _ := r97
      subst r97
      have h1_ := (HS.out.below hC).blockAt 8 rfl; have c1_0 := cell_of_block (k := 0) h1_ rfl; have c1_1 := cell_of_block (k := 1) h1_ rfl; have c1_2 := cell_of_block (k := 2) h1_ rfl; clear h1_
      clear hA hD
      refine stepOk_want rfl rfl s97 ?_
      intro K hK
      gi_wp2
      exact hK _ _ rfl ((fun _ => Below.refl _ _) _)
    · -- 52
      intro a' w' hA hC hD
      have s2 : a'.tmps[2]? = some _ := (hA.at 2 (by kernel_rfl)).trans rfl
      obtain ⟨u97, s97, r97⟩ := hD ⟨50, .guard⟩ (by simp) rfl _ rfl
      replace r97 : u97 = _ := r97
      subst r97
      have h1_ := (HS.out.below hC).blockAt 9 rfl; have c1_0 := cell_of_block (k := 0) h1_ rfl; have c1_1 := cell_of_block (k := 1) h1_ rfl; have c1_2 := cell_of_block (k := 2) h1_ rfl; clear h1_
      clear hA hD
      refine stepOk_want rfl rfl s97 ?_
      intro K hK
      gi_wp2
      exact hK _ _ rfl ((fun _ => Below.refl _ _) _)
    · -- 53
      intro a' w' hA hC hD
      obtain ⟨u98, s98, r98⟩ := hD ⟨51, .data⟩ (by simp) rfl _ rfl
      replace r98 : u98 = _ := r98
      subst r98
      obtain ⟨u99, s99, r99⟩ := hD ⟨52, .data⟩ (by simp) rfl _ rfl
      replace r99 : u99 = _ := r99
      subst r99
      obtain ⟨u97, s97, r97⟩ := hD ⟨50, .chain⟩ (by simp) rfl _ rfl
      replace r97 : u97 = _ := r97
      subst r97
      clear hA hD
      refine stepOk_want rfl rfl s97 ?_
      intro K hK
      gi_wp2_with fail; refine (callsIn_wide.2 (compare_any ⟨2, 1, 9⟩ ⟨2, 2, 1⟩ _)).mono ?_; rintro e w2 hg; obtain ⟨rfl, hb⟩ := hg.gives; rw [w_cmp]; exact hK _ _ rfl hb
    · -- 54
      intro a' w' hA hC hD
      obtain ⟨u100, s100, r100⟩ := hD ⟨53, .data⟩ (by simp) rfl _ rfl
      replace r100 : u100 = _ := r100
      subst r100
      obtain ⟨u97, s97, r97⟩ := hD ⟨50, .guard⟩ (by simp) rfl _ rfl
      replace r97 : u97 = _ := r97
      subst r97
      clear hA hD
      refine stepOk_want rfl rfl s97 ?_
      intro K hK
      gi_wp2
      exact hK _ _ rfl ((fun _ => Below.refl _ _) _)
    · -- 55
      intro a' w' hA hC hD
      obtain ⟨u97, s97, r97⟩ := hD ⟨50, .data⟩ (by simp) rfl _ rfl
      replace r97 : u97 = _ := r97
      subst r97
      obtain ⟨u101, s101, r101⟩ := hD ⟨54, .data⟩ (by simp) rfl _ rfl
      replace r101 : u101 = _ := r101
      subst r101
      clear hA hD
      refine stepOk_plain rfl ?_
      intro K hK
      gi_wp2
      exact hK _ _ rfl ((fun _ => Below.refl _ _) _)
    · -- 56
      intro a' w' hA hC hD
      obtain ⟨u102, s102, r102⟩ := hD ⟨55, .data⟩ (by simp) rfl _ rfl
      replace r102 : u102 = _ := r102
      subst r102
      clear hA hD
      refine stepOk_plain rfl ?_
      intro K hK
      gi_wp2
      exact hK _ _ rfl ((fun _ => Below.refl _ _) _)
    · -- 57
      intro a' w' hA hC hD
      obtain ⟨u103, s103, r103⟩ := hD ⟨56, .guard⟩ (by simp) rfl _ rfl
      replace r103 : u103 = _ := r103
      subst r103
      clear hA hD
      refine stepOk_want rfl rfl s103 ?_
      intro K hK
      gi_wp2
      exact hK _ _ rfl ((fun _ => Below.refl _ _) _)
    · -- 58
      intro a' w' hA hC hD
      obtain ⟨u104, s104, r104⟩ := hD ⟨57, .data⟩ (by simp) rfl _ rfl
      replace r104 : u104 = _ := r104
      subst r104
      obtain ⟨u103, s103, r103⟩ := hD ⟨56, .chain⟩ (by simp) rfl _ rfl
      replace r103 : u103 = _ := r103
      subst r103
      clear hA hD
      refine stepOk_want rfl rfl s103 ?_
      intro K hK
      gi_wp2_with fail; refine (callsIn_wide.2 (idCheck_any ⟨0, 1, 1⟩ _)).mono ?_; rintro e w2 ⟨rfl, hb⟩; rw [w_err]
      exact hK _ _ rfl hb
    · -- 59
      intro a' w' hA hC hD
      obtain ⟨u105, s105, r105⟩ := hD ⟨58, .data⟩ (by simp) rfl _ rfl
      replace r105 : u105 = _ := r105
      subst r105
      obtain ⟨u103, s103, r103⟩ := hD ⟨56, .guard⟩ (by simp) rfl _ rfl
      replace r103 : u103 = _ := r103
      subst r103
      clear hA hD
      refine stepOk_want rfl rfl s103 ?_
      intro K hK
      gi_wp2
      exact hK _ _ rfl ((fun _ => Below.refl _ _) _)
    · -- 60
      intro a' w' hA hC hD
      obtain ⟨u103, s103, r103⟩ := hD ⟨56, .data⟩ (by simp) rfl _ rfl
      replace r103 : u103 = _ := r103
      subst r103
      obtain ⟨u106, s106, r106⟩ := hD ⟨59, .data⟩ (by simp) rfl _ rfl
      replace r106 : u106 = _ := r106
      subst r106
      clear hA hD
      refine stepOk_plain rfl ?_
      intro K hK
      gi_wp2
      exact hK _ _ rfl ((fun _ => Below.refl _ _) _)
    · -- 61
      intro a' w' hA hC hD
      obtain ⟨u107, s107, r107⟩ := hD ⟨60, .data⟩ (by simp) rfl _ rfl
      replace r107 : u107 = _ := r107
      subst r107
      clear hA hD
      refine stepOk_plain rfl ?_
      intro K hK
      gi_wp2
      exact hK _ _ rfl ((fun _ => Below.refl _ _) _)
  case hend =>
    intro w3 hC
    simp only [EndFrom, eqv, forall_eq, Act.put, List.length_cons, List.length_nil, List.drop_succ_cons, List.drop_zero, Nat.reduceAdd, List.setIfInBounds_toArray, List.set_cons_succ, List.set_cons_zero]
    rintro u0 ⟨q, rfl, _⟩ u1 _ u2 ⟨q2, rfl, _⟩
    have HC := Lib.hid (HS.out.low.trans (hC.mono HS.out.size))
    clear hC
    gi_wp2
    go_wp2_with fail
    go_ret
    exact ⟨rfl, HC.out⟩
end Go.Proofs.YtppaheekpmgifaaDoor
