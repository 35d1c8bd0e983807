/- Merged texts: FlL Fill OfL. -/
import Derived.Test.YtodpkgbpcpfamaaGreatM17
import Derived.Test.YtodpkgbpcpfamaaGreatM3
import Derived.Test.YtodpkgbpcpfamaaGreatM9
/- Layer 8: the laws of regions and steps, plain. -/
namespace Go.Proofs.YtodpkgbpcpfamaaGreat
set_option linter.unusedSimpArgs false
set_option linter.unusedVariables false
open Go.RowKit Go.Shelf

/-- Ways from p by what is near. -/
abbrev WayC (C : CanT) (p : PtT) (t : Int) : Nat → PtT → Prop := Way (nearP C p t) (8 * (C.wide : Int)) (8 * (C.high : Int)) (fun _ => 0) p
section
variable {C : CanT} {p q : PtT} {t : Int} {d : Nat}
theorem runC_inv (hC : okCan C) (hp : onC C p = true) (ht : 0 ≤ t) :
 BfI (nearP C p t) (8 * (C.wide : Int)) (8 * (C.high : Int)) (fun _ => 0) p (runB (nearP C p t) (8 * (C.wide : Int)) (8 * (C.high : Int)) (fun _ => 0) p).l.length (runB (nearP C p t) (8 * (C.wide : Int)) (8 * (C.high : Int)) (fun _ => 0) p) :=
 runB_inv (by have := hC.wide; omega) (by have := hC.high; omega) hp (nearP_self C p ht) rfl
theorem goneC (hC : okCan C) (hp : onC C p = true) (ht : 0 ≤ t) : Gone (nearP C p t) (8 * (C.wide : Int)) (8 * (C.high : Int)) (fun _ => 0) p (metC C p t) :=
 (runC_inv hC hp ht).gone (by have := hC.wide; omega)
theorem metC_of_way (hC : okCan C) (hp : onC C p = true) (ht : 0 ≤ t) (h : WayC C p t d q) : 1 ≤ metC C p t (ixP q) ∧ metC C p t (ixP q) ≤ d + 1 := by
 have hb := runC_inv hC hp ht
 obtain ⟨h1, h2⟩ := hb.met h
 obtain ⟨i, hi⟩ := List.mem_iff_getElem?.1 h1
 exact ⟨(hb.val i q hi).1, h2⟩
theorem metC_way (hC : okCan C) (hp : onC C p = true) (ht : 0 ≤ t) (hq : onC C q = true) (h : 0 < metC C p t (ixP q)) : WayC C p t (metC C p t (ixP q) - 1) q :=
 (((goneC hC hp ht).in_ q hq rfl (metC C p t (ixP q) - 1)).1 (by omega)).1
theorem metC_iff (hC : okCan C) (hp : onC C p = true) (ht : 0 ≤ t) (hq : onC C q = true) : 0 < metC C p t (ixP q) ↔ ∃ d, WayC C p t d q :=
 ⟨fun h => ⟨_, metC_way hC hp ht hq h⟩, fun ⟨_, h⟩ => (metC_of_way hC hp ht h).1⟩
theorem WayC.on (hp : onC C p = true) (h : WayC C p t d q) : onC C q = true := by
 cases h with
 | here => exact hp
 | step _ _ ho _ _ => exact ho
theorem WayC.near (ht : 0 ≤ t) (h : WayC C p t d q) : nearP C p t q = true := by
 cases h with
 | here => exact nearP_self C p ht
 | step _ _ _ hN _ => exact hN
theorem metC_self (hC : okCan C) (hp : onC C p = true) (ht : 0 ≤ t) : metC C p t (ixP p) = 1 := (runC_inv hC hp ht).first
/-- One step more. -/
theorem metC_next (hC : okCan C) (hp : onC C p = true) (ht : 0 ≤ t) (hq : onC C q = true) (h : 0 < metC C p t (ixP q)) {n : PtT} (hn : n ∈ nbs q) (ho : onC C n = true) (hN : nearP C p t n = true) : 0 < metC C p t (ixP n) ∧ metC C p t (ixP n) ≤ metC C p t (ixP q) + 1 := by
 have h1 := metC_of_way hC hp ht (.step (metC_way hC hp ht hq h) hn ho hN rfl)
 omega
/-! ### The row of a region -/
def InReg (C : CanT) (p : PtT) (t : Int) (q : PtT) : Prop := onC C q = true ∧ 0 < metC C p t (ixP q)
theorem RowOf.congr {x1 y1 : Int} {n m : Nat} {F G : Nat → Nat → Bool} {L : List SpT} (h : RowOf x1 y1 n m F L) (e : ∀ r c, r < n → c < m → F r c = G r c) : RowOf x1 y1 n m G L := by
 refine ⟨h.row, h.box, fun p => (h.has p).trans ?_⟩
 constructor
 · rintro ⟨a, b, c⟩
   exact ⟨a, b, by rw [← e _ _ (by omega) (by omega)]; exact c⟩
 · rintro ⟨a, b, c⟩
   exact ⟨a, b, by rw [e _ _ (by omega) (by omega)]; exact c⟩
theorem region_rowOf (C : CanT) (p : PtT) (t : Int) : RowOf 0 0 (8 * C.high) (8 * C.wide) (fun r c => decide (0 < metC C p t (r * 32 + c))) (regL (placesL C p t)) :=
 (reg_rowOf (8 * C.wide) (metB (8 * C.wide) (metC C p t)) (8 * C.high)).congr fun r c _ hc => metB_at hc _
theorem region_has (C : CanT) (p : PtT) (t : Int) (q : PtT) : hasB (regL (placesL C p t)) q = true ↔ InReg C p t q := by
 rw [(region_rowOf C p t).has q]
 unfold InReg onC
 rw [onB_iff]
 constructor
 · rintro ⟨⟨a, b⟩, ⟨c, d⟩, e⟩
   have e := of_decide_eq_true e
   rw [show (q.y - 0).toNat * 32 + (q.x - 0).toNat = ixP q by unfold ixP; omega] at e
   exact ⟨⟨⟨c, by omega⟩, a, by omega⟩, e⟩
 · rintro ⟨⟨⟨c, d⟩, a, b⟩, e⟩
   refine ⟨⟨a, by omega⟩, ⟨c, by omega⟩, decide_eq_true ?_⟩
   rw [show (q.y - 0).toNat * 32 + (q.x - 0).toNat = ixP q by unfold ixP; omega]
   exact e
theorem mem_gathL {W H : Nat} {is : Nat → Bool} {q : PtT} : q ∈ gathL W is (H * W) ↔ ((0 ≤ q.x ∧ q.x < W) ∧ (0 ≤ q.y ∧ q.y < H)) ∧ is (q.y.toNat * W + q.x.toNat) = true := by
 constructor
 · intro h
   refine ⟨gathL_in h, ?_⟩
   obtain ⟨k, hk, rfl⟩ := List.mem_map.1 h
   obtain ⟨hk, hi⟩ := List.mem_filter.1 hk
   unfold ptK
   simp only [Int.toNat_natCast]
   rw [Nat.mul_comm, Nat.div_add_mod]
   exact hi
 · rintro ⟨⟨⟨a, b⟩, c, d⟩, h⟩
   refine List.mem_map.2 ⟨q.y.toNat * W + q.x.toNat, List.mem_filter.2 ⟨List.mem_range.2 ?_, h⟩, ?_⟩
   · calc q.y.toNat * W + q.x.toNat < q.y.toNat * W + W := by omega
      _ = (q.y.toNat + 1) * W := by rw [Nat.add_mul, Nat.one_mul]
      _ ≤ H * W := Nat.mul_le_mul_right _ (by omega)
   · rw [ptK_at (by omega)]
     obtain ⟨x, y⟩ := q
     simp only [PtT.mk.injEq] at a b c d ⊢
     omega
theorem places_mem (C : CanT) (p : PtT) (t : Int) (q : PtT) : q ∈ placesL C p t ↔ InReg C p t q := by
 unfold placesL
 rw [mem_gathL]
 unfold InReg onC
 rw [onB_iff]
 constructor
 · rintro ⟨⟨⟨a, b⟩, c, d⟩, h⟩
   refine ⟨⟨⟨a, by omega⟩, c, by omega⟩, ?_⟩
   rw [metB_at (by omega)] at h
   have h := of_decide_eq_true h
   rw [show q.y.toNat * 32 + q.x.toNat = ixP q by unfold ixP; omega] at h
   exact h
 · rintro ⟨⟨⟨a, b⟩, c, d⟩, h⟩
   refine ⟨⟨⟨a, by omega⟩, c, by omega⟩, ?_⟩
   rw [metB_at (by omega)]
   refine decide_eq_true ?_
   rw [show q.y.toNat * 32 + q.x.toNat = ixP q by unfold ixP; omega]
   exact h
theorem near_mono {a b : ColT} {s t : Int} (h : s ≤ t) (hn : nearB a b s = true) : nearB a b t = true := by
 unfold nearB at *
 rw [decide_eq_true_iff] at *
 omega
theorem WayC.mono {s : Int} (hst : t ≤ s) (h : WayC C p t d q) : WayC C p s d q := by
 induction h with
 | here => exact .here
 | step _ hn ho hN h0 ih => exact .step ih hn ho (near_mono hst hN) h0
/-- The way back. -/
theorem WayC.cons {a b : PtT} {N : PtT → Bool} {W H : Int} (h : Way N W H (fun _ => 0) a d q) (hab : a ∈ nbs b) (ha : onB W H a = true) (hn : N a = true) : Way N W H (fun _ => 0) b (d + 1) q := by
 induction h with
 | here => exact .step .here hab ha hn rfl
 | step _ h1 h2 h3 h4 ih => exact .step ih h1 h2 h3 h4
theorem Way.back {N : PtT → Bool} {W H : Int} (hp : onB W H p = true) (hN : N p = true) (h : Way N W H (fun _ => 0) p d q) : Way N W H (fun _ => 0) q d p := by
 induction h with
 | here => exact .here
 | step hb hn ho hN' h0 ih =>
  rename_i e b n
  have hbo : onB W H b = true ∧ N b = true := by
   cases hb with
   | here => exact ⟨hp, hN⟩
   | step _ _ h1 h2 _ => exact ⟨h1, h2⟩
  exact WayC.cons ih (nbs_symm hn) hbo.1 hbo.2
theorem Way.congr {N M : PtT → Bool} {W H : Int} (e : ∀ x, N x = M x) (h : Way N W H (fun _ => 0) p d q) : Way M W H (fun _ => 0) p d q := by
 rw [show M = N from (funext e).symm]; exact h
/-! ### By the greatest tolerance all is met -/
theorem WayC.sides {N : PtT → Bool} {W H : Int} (hN : ∀ x, onB W H x = true → N x = true) (hp : onB W H p = true) : ∀ (k : Nat) (q : PtT), onB W H q = true → (q.x - p.x).natAbs + (q.y - p.y).natAbs = k → ∃ d, Way N W H (fun _ => 0) p d q
 | 0, q, _, h => by
  obtain ⟨x, y⟩ := p
  obtain ⟨u, v⟩ := q
  simp only at h
  obtain rfl : u = x := by omega
  obtain rfl : v = y := by omega
  exact ⟨0, .here⟩
 | k + 1, q, hq, h => by
  have h1 := onB_iff.1 hp
  have h2 := onB_iff.1 hq
  have step : ∀ b : PtT, onB W H b = true → (b.x - p.x).natAbs + (b.y - p.y).natAbs = k → q ∈ nbs b → ∃ d, Way N W H (fun _ => 0) p d q := fun b hb hk hn => by
   obtain ⟨d, hd⟩ := WayC.sides hN hp k b hb hk
   exact ⟨d + 1, .step hd hn hq (hN q hq) rfl⟩
  obtain ⟨x, y⟩ := p
  obtain ⟨u, v⟩ := q
  simp only at h h1 h2
  by_cases c1 : x < u
  · exact step ⟨u - 1, v⟩ (onB_iff.2 (by simp only; omega)) (by simp only; omega) (by simp [nbs])
  · by_cases c2 : u < x
    · exact step ⟨u + 1, v⟩ (onB_iff.2 (by simp only; omega)) (by simp only; omega) (by simp [nbs])
    · by_cases c3 : y < v
      · exact step ⟨u, v - 1⟩ (onB_iff.2 (by simp only; omega)) (by simp only; omega) (by simp [nbs])
      · exact step ⟨u, v + 1⟩ (onB_iff.2 (by simp only; omega)) (by simp only; omega) (by simp [nbs])
/-! ### A region by a greater tolerance; regions that are one -/
theorem InReg.mono (hC : okCan C) (hp : onC C p = true) {s : Int} (h0 : 0 ≤ s) (hst : s ≤ t) (h : InReg C p s q) : InReg C p t q := by
 obtain ⟨h1, h2⟩ := h
 exact ⟨h1, (metC_iff hC hp (by omega) h1).2 ⟨_, (metC_way hC hp h0 h1 h2).mono hst⟩⟩
theorem Way.app {N : PtT → Bool} {W H : Int} {m0 : Nat → Nat} {a b c : PtT} {d e : Nat} (h : Way N W H m0 a d b) (k : Way N W H m0 b e c) : Way N W H m0 a (d + e) c := by
 induction k with
 | here => exact h
 | step _ h1 h2 h3 h4 ih => exact .step ih h1 h2 h3 h4
end

/-! ### Filled -/
/-- A region that is filled. -/
def fillC (C : CanT) (p : PtT) (t : Int) (c : ColT) : CanT := withL C ((placesL C p t).map fun q => ⟨q.x, q.y, c⟩)
section
variable {C : CanT} {p q : PtT} {t : Int} {c : ColT}
theorem fillC_ok (hC : okCan C) (hc : okC c) : okCan (fillC C p t c) := okCan.withL _ hC fun d hd => by
 obtain ⟨q, _, rfl⟩ := List.mem_map.1 hd
 exact hc
theorem fillC_wide : (fillC C p t c).wide = C.wide := withL_wide _ _
theorem fillC_high : (fillC C p t c).high = C.high := withL_high _ _
theorem fillC_on : onC (fillC C p t c) q = onC C q := by unfold onC; rw [fillC_wide, fillC_high]
open Classical in
theorem fillC_col (hC : okCan C) (hc : okC c) (hq : onC C q = true) : colP (fillC C p t c) q = if InReg C p t q then c else colP C q := by
 obtain ⟨h1, h2, h3, h4⟩ := onCan_nat (C := C) hq
 unfold colP fillC
 rw [colC_withP _ hC hc h1 h2, h3, h4]
 by_cases h : InReg C p t q
 · rw [if_pos h, if_pos ((places_mem C p t q).2 h)]
 · rw [if_neg h, if_neg fun e => h ((places_mem C p t q).1 e)]
/-- Filled, the region of the pixel is no less. -/
theorem fillC_more (hC : okCan C) (hc : okC c) (hp : onC C p = true) (ht : 0 ≤ t) (h : InReg C p t q) : InReg (fillC C p t c) p t q := by
 have hD : okCan (fillC C p t c) := fillC_ok hC hc
 have hp' : onC (fillC C p t c) p = true := by rw [fillC_on]; exact hp
 have hpi : InReg C p t p := ⟨hp, by rw [metC_self hC hp ht]; omega⟩
 have key : ∀ d q, WayC C p t d q → WayC (fillC C p t c) p t d q := fun d q hw => by
  induction hw with
  | here => exact .here
  | step hb hn ho hN h0 ih =>
   rename_i e b n
   have hni : InReg C p t n := ⟨ho, (metC_iff hC hp ht ho).2 ⟨_, .step hb hn ho hN h0⟩⟩
   refine .step ih hn (by rw [fillC_wide, fillC_high]; exact ho) ?_ rfl
   unfold nearP
   rw [fillC_col hC hc hp, fillC_col hC hc ho, if_pos hpi, if_pos hni]
   unfold nearB
   rw [far_self]
   exact decide_eq_true ht
 obtain ⟨h1, h2⟩ := h
 exact ⟨by rw [fillC_on]; exact h1, (metC_iff hD hp' ht (by rw [fillC_on]; exact h1)).2 ⟨_, key _ _ (metC_way hC hp ht h1 h2)⟩⟩
/-- A pixel beside a region is not near. -/
theorem reg_beside (hC : okCan C) (hp : onC C p = true) (ht : 0 ≤ t) (h : InReg C p t q) {n : PtT} (hn : n ∈ nbs q) (ho : onC C n = true) (hni : ¬ InReg C p t n) : nearB (colP C p) (colP C n) t = false := by
 cases hN : nearB (colP C p) (colP C n) t with
 | false => rfl
 | true => exact (hni ⟨ho, (metC_next hC hp ht h.1 h.2 hn ho hN).1⟩).elim
end
end Go.Proofs.YtodpkgbpcpfamaaGreat

/- Layer 8: Fill. -/
namespace Go.Proofs.YtodpkgbpcpfamaaGreat
set_option linter.unusedSimpArgs false
set_option linter.unusedVariables false
open Go.RowKit Go.Shelf
attribute [local go_sem] Oper.semAt_some

/-- A row of places that is read. -/
def RowP2 (w : World) (v : Value) (ps : List PtT) : Prop := ∃ a cap, v = .slice a ps.length cap ∧ Elems w (.slice a ps.length cap) ps.length 2 (rowC encP ps)

set_option maxRecDepth 100000 in
set_option maxHeartbeats 1000000 in
theorem fill_bad (C : CanT) (c : Nat) (p : PtT) (t : Int) (cl : ColT) (w : World) (hC : CanAt w c C) (hb : begB C p t = false) : Calls Tryz.prog 7 #[.pointer (some ⟨c, 0, none⟩), p.val, .int .i64 t, cl.val] w (Gives (.tuple #[.pointer none, .int .i64 (begE C p t)]) w) := by
 have HS := Lib.hid (St.start w)
 have HC := Lib.hid (fun w' (h : Below w.heap.size w w') => show Calls Tryz.prog 23 #[.pointer (some ⟨c, 0, none⟩), p.val, .int .i64 t] w' (Gives (.tuple #[.pointer none, .int .i64 (begE C p t)]) w') by
  unfold begE
  cases ht : tolB t with
  | false => exact begun_arg c p t ht w'
  | true =>
   cases hp : onC C p with
   | false => exact begun_none C c p t ht hp w' (hC.below h)
   | true => unfold begB at hb; rw [ht, hp] at hb; cases hb)
 have hne : begE C p t = 4 ∨ begE C p t = 2 := by
  unfold begE
  cases ht : tolB t with
  | false => exact .inr rfl
  | true =>
   cases hp : onC C p with
   | false => exact .inl rfl
   | true => unfold begB at hb; rw [ht, hp] at hb; cases hb
 obtain ⟨er, her⟩ : ∃ er, begE C p t = er := ⟨_, rfl⟩
 rw [her] at HC hne ⊢
 obtain ⟨x, y⟩ := p
 obtain ⟨r, g, b, al⟩ := cl
 unfold PtT.val ColT.val at *
 simp only at HC
 clear hC hb her
 rcases hne with rfl | rfl <;> (
  go_enter Tryz.func7, Tryz.ntmps7
  repeat ((fail_if_success (with_reducible refine stop_at (id := 1) ?_)); (first | go_values | go_skip | go_guarded | go_step | go_upon | go_back | (simp only [Int.not_lt, Int.not_le] at *; go_simp) | (go_values <;> (try go_simp)) | (go_ite <;> go_prune <;> (try go_simp)) | (split <;> (first | (rename_i hx; exact (hx _ rfl).elim) | go_prune))))
  have hs_ := ((HS.out.alloc (.cells #[.int .i64 x, .int .i64 y] 33)).alloc (.cells #[.int .u8 r, .int .u8 g, .int .u8 b, .int .u8 al] 27))
  obtain ⟨w1, hw_⟩ : ∃ w1 : World, ((w.alloc (.cells #[.int .i64 x, .int .i64 y] 33)).alloc (.cells #[.int .u8 r, .int .u8 g, .int .u8 b, .int .u8 al] 27)) = w1 := ⟨_, rfl⟩
  rw [hw_] at hs_
  try simp only [World.size_alloc] at hs_
  have HS := Lib.hid hs_
  rw [hw_]
  clear hw_ hs_
  have k0 := cell_of_block (k := 0) (HS.out.blockAt 1 rfl) rfl
  have k1 := cell_of_block (k := 1) (HS.out.blockAt 1 rfl) rfl
  go_wp2_with fail
  refine (HC.out _ HS.out.low).mono ?_
  rintro e w2 ⟨rfl, hb_⟩
  have HS := Lib.hid (HS.out.below hb_)
  clear hb_
  go_wp2_with fail
  refine bodyPost_ret (v := .tuple #[.pointer none, .int .i64 _]) (by simp [results, Tryz.results7, go_sem]) rfl ⟨rfl, HS.out.low⟩)

set_option maxRecDepth 100000 in
set_option maxHeartbeats 1000000 in
theorem fill_good (C : CanT) (c : Nat) (p : PtT) (t : Int) (cl : ColT) (hcl : okC cl) (w : World) (hC : CanAt w c C) (hb : begB C p t = true) : Calls Tryz.prog 7 #[.pointer (some ⟨c, 0, none⟩), p.val, .int .i64 t, cl.val] w (GivesCan (fillC C p t cl) w) := by
 have HS := Lib.hid (St.start w)
 have HC := Lib.hid (fun w' (h : Below w.heap.size w w') => show Calls _ _ _ _ (GivesSea c (8 * (C.wide : Int)) (8 * (C.high : Int)) (metC C p t) w') from begun_on C c p t (Bool.and_eq_true_iff.1 hb).1 (Bool.and_eq_true_iff.1 hb).2 w' (hC.below h))
 have HP := Lib.hid (fun (S : Nat) (v : Value) (w' : World) h => (points_any S c (8 * C.wide) (8 * C.high) (by have := hC.ok.wide; omega) (by have := hC.ok.high; omega) (metC C p t) v w' h))
 have HLN := Lib.hid (placesL_len hC.ok p t)
 have HFC := Lib.hid (show fillC C p t cl = setC C cl (placesL C p t) from rfl)
 obtain ⟨Q, hQ⟩ : ∃ Q, placesL C p t = Q := ⟨_, rfl⟩
 have hQ' : gathL (8 * C.wide) (metB (8 * C.wide) (metC C p t)) (8 * C.high * (8 * C.wide)) = Q := hQ
 rw [hQ] at HLN HFC
 rw [hQ'] at HP
 rw [HFC.out]
 have HSE := Lib.hid (fun (a : Option Addr) (cap : Nat) (w' : World) (h : Below w.heap.size w w') he => set_any C c cl hcl a Q.length cap Q rfl (by have := HLN.out; omega) w' (hC.below h) he)
 obtain ⟨M, hM⟩ : ∃ M, metC C p t = M := ⟨_, rfl⟩
 have e1 : ((8 * C.wide : Nat) : Int) = 8 * (C.wide : Int) := by omega
 have e2 : ((8 * C.high : Nat) : Int) = 8 * (C.high : Int) := by omega
 rw [hM, e1, e2] at HP
 rw [hM] at HC
 obtain ⟨W, hW⟩ : ∃ W, 8 * (C.wide : Int) = W := ⟨_, rfl⟩
 obtain ⟨H, hH⟩ : ∃ H, 8 * (C.high : Int) = H := ⟨_, rfl⟩
 rw [hW, hH] at HP HC
 obtain ⟨D, hD⟩ : ∃ D, setC C cl Q = D := ⟨_, rfl⟩
 rw [hD] at HSE ⊢
 obtain ⟨x, y⟩ := p
 obtain ⟨r, g, b, al⟩ := cl
 unfold PtT.val ColT.val at *
 simp only at HC HSE
 clear hC hb hQ hQ' hM e1 e2 hW hH hD hcl HFC
 go_enter Tryz.func7, Tryz.ntmps7
 repeat ((fail_if_success (with_reducible refine stop_at (id := 1) ?_)); (first | go_values | go_skip | go_guarded | go_step | go_upon | go_back | (simp only [Int.not_lt, Int.not_le] at *; go_simp) | (go_values <;> (try go_simp)) | (go_ite <;> go_prune <;> (try go_simp)) | (split <;> (first | (rename_i hx; exact (hx _ rfl).elim) | go_prune))))
 have hs_ := ((HS.out.alloc (.cells #[.int .i64 x, .int .i64 y] 33)).alloc (.cells #[.int .u8 r, .int .u8 g, .int .u8 b, .int .u8 al] 27))
 obtain ⟨w1, hw_⟩ : ∃ w1 : World, ((w.alloc (.cells #[.int .i64 x, .int .i64 y] 33)).alloc (.cells #[.int .u8 r, .int .u8 g, .int .u8 b, .int .u8 al] 27)) = w1 := ⟨_, rfl⟩
 rw [hw_] at hs_
 try simp only [World.size_alloc] at hs_
 have HS := Lib.hid hs_
 rw [hw_]
 clear hw_ hs_
 have k0 := cell_of_block (k := 0) (HS.out.blockAt 1 rfl) rfl
 have k1 := cell_of_block (k := 1) (HS.out.blockAt 1 rfl) rfl
 go_wp2_with fail
 clear k0 k1
 refine (HC.out _ HS.out.low).mono ?_
 rintro e w2 ⟨S, v', rfl, hS, hs, hb⟩
 have HS := Lib.hid (HS.out.below hb)
 have HSO := Lib.hid hs
 clear hS hs hb HC
 repeat ((fail_if_success (with_reducible refine stop_at (id := 4) ?_)); (first | go_values | go_skip | go_guarded | go_step | go_upon | go_back | (simp only [Int.not_lt, Int.not_le] at *; go_simp) | (go_values <;> (try go_simp)) | (go_ite <;> go_prune <;> (try go_simp)) | (split <;> (first | (rename_i hx; exact (hx _ rfl).elim) | go_prune))))
 refine (wpIn_wide (n := 0)).1 ?_
 apply wp_region_vals 4 (Rl := [(eqv _), (eqv _), (eqv _), (fun v_ w_ => RowP2 w_ v_ Q)]) (C := (fun x y => Below x.heap.size x y))
 case hm => kernel_rfl
 case hk => rfl
 case hCr => exact (fun _ => Below.refl _ _)
 case hCt => intro _ _ _; exact (fun h k => grows_trans h k)
 case hst => exact ⟨fun _ _ _ _ h => h, fun _ _ _ _ h => h, fun _ _ _ _ h => h, fun _ _ _ hC ⟨a, cap, e, h⟩ => ⟨a, cap, e, h.below hC⟩, trivial⟩
 case hfo => kernel_rfl
 case ht => kernel_rfl
 case hC0 => exact (grows_drew _)
 case hsteps =>
  refine ⟨?_, ?_, ?_, ?_, trivial⟩
  · intro a' w' hA hC hD; have s0 : a'.tmps[0]? = some _ := (hA.at 0 (by kernel_rfl)).trans rfl; clear hA hD; refine stepOk_plain rfl ?_; intro K hK; gi_wp2; exact hK _ _ rfl ((fun _ => Below.refl _ _) _)
  · intro a' w' hA hC hD; have s7 : a'.tmps[7]? = some _ := (hA.at 7 (by kernel_rfl)).trans rfl
    have h1_ := (HS.out.below hC).blockAt 0 rfl; have c1_0 := cell_of_block (k := 0) h1_ rfl; have c1_1 := cell_of_block (k := 1) h1_ rfl; have c1_2 := cell_of_block (k := 2) h1_ rfl; have c1_3 := cell_of_block (k := 3) h1_ rfl; clear h1_
    clear hA hD; refine stepOk_plain rfl ?_; intro K hK; gi_wp2; exact hK _ _ rfl ((fun _ => Below.refl _ _) _)
  · intro a' w' hA hC hD; have s10 : a'.tmps[10]? = some _ := (hA.at 10 (by kernel_rfl)).trans rfl; clear hA hD; refine stepOk_plain rfl ?_; intro K hK; gi_wp2; exact hK _ _ rfl ((fun _ => Below.refl _ _) _)
  · intro a' w' hA hC hD; obtain ⟨u24, s24, r24⟩ := hD ⟨2, .data⟩ (by simp) rfl _ rfl; replace r24 : u24 = _ := r24; subst r24; clear hA hD; refine stepOk_plain rfl ?_; intro K hK
    gi_wp2_with fail; refine (callsIn_wide.2 (HP.out S v' _ ((hC.block S (block_lt HSO.out)).trans HSO.out))).mono ?_; rintro e w5 ⟨u, rfl, hrow, hb5⟩; obtain ⟨a, cap, rfl, -⟩ := (ownsRow_rows encP_len hrow).shape
    exact hK _ _ ⟨a, cap, rfl, ownsRow_rows encP_len hrow⟩ hb5
 case hend =>
  intro w3 hC
  simp only [EndFrom, eqv, forall_eq, Act.put, List.length_cons, List.length_nil, List.drop_succ_cons, List.drop_zero, Nat.reduceAdd, List.setIfInBounds_toArray, List.set_cons_succ, List.set_cons_zero]
  rintro v3 ⟨a, cap, rfl, hel⟩
  have HS := Lib.hid (HS.out.below hC)
  have HEL := Lib.hid hel
  clear hC hel
  gi_wp2_with fail
  refine (callsIn_wide.2 (HSE.out a cap _ HS.out.low HEL.out)).mono ?_
  rintro e w4 ⟨p', rfl, hc4, hp4, hb4⟩
  have HR := Lib.hid (And.intro hc4 (And.intro (Nat.le_trans HS.out.size hp4) (HS.out.low.trans (hb4.mono HS.out.size))))
  clear hc4 hp4 hb4
  gi_wp2_with fail
  go_wp2_with fail
  refine bodyPost_ret (v := .tuple #[.pointer (some ⟨p', 0, none⟩), .int .i64 0]) (by simp [results, Tryz.results7, go_sem]) rfl ⟨p', rfl, HR.out⟩
end Go.Proofs.YtodpkgbpcpfamaaGreat

/- Layer 8: of: a canvas that shows something. -/
namespace Go.Proofs.YtodpkgbpcpfamaaGreat
set_option linter.unusedSimpArgs false
set_option linter.unusedVariables false
open Go.RowKit Go.Shelf
attribute [local go_sem] Oper.semAt_some

/-- One block is filled. -/
structure Fill1 (n₀ B : Nat) (Z S : Obj) (x y : World) : Prop where
 low : Below n₀ x y
 other : ∀ (j : Nat) (ob : Obj), j ≠ B → x.heap[j]? = some ob → y.heap[j]? = some ob
 done : x.heap[B]? = some S → y.heap[B]? = some S
 fill : x.heap[B]? = some Z → y.heap[B]? = some Z ∨ y.heap[B]? = some S
theorem Fill1.refl (n₀ B : Nat) (Z S : Obj) (x : World) : Fill1 n₀ B Z S x x := ⟨Below.refl _ _, fun _ _ _ h => h, fun h => h, .inl⟩
theorem Fill1.trans {n₀ B : Nat} {Z S : Obj} {x y z : World} (h : Fill1 n₀ B Z S x y) (k : Fill1 n₀ B Z S y z) : Fill1 n₀ B Z S x z :=
 ⟨h.low.trans k.low, fun j ob hj hx => k.other j ob hj (h.other j ob hj hx), fun hx => k.done (h.done hx), fun hx => by
  rcases h.fill hx with e | e
  · exact k.fill e
  · exact .inr (k.done e)⟩
theorem Fill1.drew (n₀ B : Nat) (Z S : Obj) (x : World) : Fill1 n₀ B Z S x x.drew := ⟨(Below.refl _ _).drew, fun _ _ _ h => h, fun h => h, .inl⟩
theorem Fill1.turned {n₀ B : Nat} {Z S : Obj} {x y : World} (h : Fill1 n₀ B Z S x y) : Turned (fun j => j = B) x y :=
 ⟨h.low.os, h.low.tape, h.low.output, h.low.size, fun k hk hne => by
  have e : x.heap[k]? = some x.heap[k] := Array.getElem?_eq_getElem hk
  rw [e]
  exact h.other k _ hne e⟩
theorem Fill1.one {n₀ B : Nat} {Z S : Obj} {x y : World} (hl : Below n₀ x y) (hy : y.heap[B]? = some S) (ho : ∀ (j : Nat) (ob : Obj), j ≠ B → x.heap[j]? = some ob → y.heap[j]? = some ob) : Fill1 n₀ B Z S x y := ⟨hl, ho, fun _ => hy, fun _ => .inr hy⟩
theorem either3' {w : World} {p : Nat} {t : TypeId} {f : Nat × Nat} {a b c x y z : Value} (hx : w.heap[p]? = some (.cells #[a, b, c] t f) ∨ w.heap[p]? = some (.cells #[x, y, z] t f)) : ∃ k l m, w.heap[p]? = some (.cells #[k, l, m] t f) := by
 rcases hx with hx | hx
 · exact ⟨_, _, _, hx⟩
 · exact ⟨_, _, _, hx⟩
/-- Three cells of a block are written. -/
theorem fill1_3 {n₀ : Nat} {w : World} {p : Nat} {t : TypeId} {f : Nat × Nat} {Z : Obj} {a b c x y z : Value} (hn : n₀ ≤ p) (hx : w.heap[p]? = some (.cells #[a, b, c] t f)) :
 Fill1 n₀ p Z (.cells #[x, y, z] t f) w (((w.setCell ⟨p, 0, none⟩ x).setCell ⟨p, 1, none⟩ y).setCell ⟨p, 2, none⟩ z) ∧ (((w.setCell ⟨p, 0, none⟩ x).setCell ⟨p, 1, none⟩ y).setCell ⟨p, 2, none⟩ z).heap[p]? = some (.cells #[x, y, z] t f) := by
 have hs : (((w.setCell ⟨p, 0, none⟩ x).setCell ⟨p, 1, none⟩ y).setCell ⟨p, 2, none⟩ z).heap[p]? = some (.cells #[x, y, z] t f) := heap_set_same (heap_set_same (heap_set_same hx x) y) z
 exact ⟨Fill1.one ((((Below.refl _ _).setCell (p := ⟨p, 0, none⟩) hn _).setCell (p := ⟨p, 1, none⟩) hn _).setCell (p := ⟨p, 2, none⟩) hn _) hs (fun j ob hne hj => heap_set_other (heap_set_other (heap_set_other hj (fun e => hne e.symm) _) (fun e => hne e.symm) _) (fun e => hne e.symm) _), hs⟩
theorem set3h {w : World} {p : Nat} {t : TypeId} {f : Nat × Nat} {a b c x y z : Value} (hx : w.heap[p]? = some (.cells #[a, b, c] t f)) : (((w.setCell ⟨p, 0, none⟩ x).setCell ⟨p, 1, none⟩ y).setCell ⟨p, 2, none⟩ z).heap[p]? = some (.cells #[x, y, z] t f) := heap_set_same (heap_set_same (heap_set_same hx x) y) z
def RowGotT (lo : Nat) (w : World) (v : Value) (ts : List TileT) : Prop := RowGot lo w v ts ∧ ∀ ad n c, v = .slice (some ad) n c → ∃ cs f, w.heap[ad.block]? = some (.cells cs 67 f)
theorem RowGotT.below {lo : Nat} {w w' : World} {v : Value} {ts : List TileT} (h : RowGotT lo w v ts) (hb : Below w.heap.size w w') : RowGotT lo w' v ts :=
 ⟨h.1.below hb, fun ad n c e => by
  obtain ⟨cs, f, h1⟩ := h.2 ad n c e
  exact ⟨cs, f, (hb.block _ (block_lt h1)).trans h1⟩⟩
theorem Cloned.gotT' {ts : List TileT} {sv : Value} {w : World} {e : Ending} {w' : World} (h : Cloned 67 256 ts.length (ts.flatMap encT) sv w e w') : ∃ v, e = .returned v ∧ RowGotT w.heap.size w' v ts ∧ Below w.heap.size w w' := by
 obtain ⟨v, rfl, hr, -, hb⟩ := h
 refine ⟨v, rfl, ⟨RowGot.of hr (Nat.le_refl _), fun ad n c e => ?_⟩, hb⟩
 subst e
 exact ownsRow_typed hr ad.block rfl
/-- Of, whatever it is. -/
theorem ofBoth (wide high : Int) (a : Option Addr) (cap : Nat) (us : List TileT) (hcol : ∀ t ∈ us, ∀ c ∈ t.1, okC c) (w : World) (he : Elems w (.slice a us.length cap) us.length 256 (rowC encT us)) :
 Calls Tryz.prog 22 #[.agg #[.int .i64 wide, .int .i64 high, .slice a us.length cap]] w fun e w' => ∃ v, e = .returned (.tuple #[v, .int .i64 (errOf (okE wide high us.length) 150)]) ∧ Below w.heap.size w w' ∧
  (okE wide high us.length = true → ∃ p, v = .pointer (some ⟨p, 0, none⟩) ∧ CanAt w' p ⟨wide.toNat, high.toNat, us⟩) ∧ (okE wide high us.length = false → v = .pointer none) := by
 cases hok : okE wide high us.length with
 | false =>
  refine (of_bad wide high a us.length cap hok w).mono ?_
  rintro e w' ⟨rfl, hb⟩
  exact ⟨_, rfl, hb, fun h => (by cases h), fun _ => rfl⟩
 | true =>
  unfold okE at hok
  rw [Bool.and_eq_true] at hok
  have h1 := mayB_iff.1 hok.1
  have h2 := of_decide_eq_true hok.2
  obtain ⟨W, rfl⟩ := Int.eq_ofNat_of_zero_le (a := wide) (by omega)
  obtain ⟨H, rfl⟩ := Int.eq_ofNat_of_zero_le (a := high) (by omega)
  have hC : okCan ⟨W, H, us⟩ := ⟨by simp only; omega, by simp only; omega, by simp only; exact_mod_cast h2, hcol⟩
  refine (of_good ⟨W, H, us⟩ hC a cap w he).mono ?_
  rintro e w' ⟨p, rfl, hc, -, hb⟩
  exact ⟨_, rfl, hb, fun _ => ⟨p, rfl, by simpa using hc⟩, fun h => (by cases h)⟩
theorem Elems.turned {w w' : World} {a : Option Addr} {n cap k m B : Nat} {c : Nat → Value} (h : Elems w (.slice a n cap) m k c) (ht : Turned (fun j => j = B) w w') (hp : ∀ ad, a = some ad → B ≠ ad.block) : Elems w' (.slice a n cap) m k c := by
 rcases h with h | ⟨b, off, cap', e, hlt, hc⟩
 · exact .inl h
 · cases e
   refine .inr ⟨b, off, cap, rfl, Nat.lt_of_lt_of_le hlt ht.size, fun i hi => ?_⟩
   rw [← hc i hi]
   exact World.cell?_of_block (ht.block b hlt (fun e => hp _ rfl e.symm))
/-- What an argument shows is written; a canvas stays. -/
theorem CanAt.turned {w w' : World} {p B : Nat} {C : CanT} {x y z : Value} {i : IntKind} {u : Int} (h : CanAt w p C) (hx : x = .int i u) (hB : w.heap[B]? = some (.cells #[x, y, z] 24 (0, 0))) (ht : Turned (fun j => j = B) w w') : CanAt w' p C := by
 obtain ⟨ok, b, cap, qs, h1, h2, h3, h4, h5⟩ := h
 have h0 : 0 < qs.length := by
  rw [h3, ok.many]
  exact Nat.mul_pos ok.wide.1 ok.high.1
 have hb : b ≠ B := fun e => by
  have k1 := h4 0 _ (List.getElem?_eq_getElem h0)
  have k2 := cell_of_block (k := 0) hB rfl
  rw [e, k2, hx] at k1
  cases k1
 refine ⟨ok, b, cap, qs, ?_, h2, h3, fun j q hq => ?_, fun j q t hq htt => ?_⟩
 · refine (ht.block p (block_lt h1) (fun e => ?_)).trans h1
   rw [e, hB] at h1
   simp at h1
 · have h6 := h4 j q hq
   rw [← h6]
   exact World.cell?_of_block (ht.block b (cell_lt h6) hb)
 · have h6 := h5 j q t hq htt
   refine (ht.block q (block_lt h6) (fun e => ?_)).trans h6
   rw [e, hB] at h6
   simp at h6
/-- What 'of' gives: a canvas, or none; what it shows. -/
def GivesOf (ok : Bool) (C : CanT) (wide high : Int) (ts : List TileT) (w : World) (e : Ending) (w' : World) : Prop :=
 ∃ v y, e = .returned (.tuple #[v, y, .bool ok]) ∧ Below w.heap.size w w' ∧ (∃ a cap, y = .agg #[.int .i64 wide, .int .i64 high, .slice a ts.length cap] ∧ ts.length ≤ cap ∧ Elems w' (.slice a ts.length cap) ts.length 256 (rowC encT ts)) ∧
  (ok = true → ∃ p, v = .pointer (some ⟨p, 0, none⟩) ∧ CanAt w' p C) ∧ (ok = false → v = .pointer none)

set_option maxRecDepth 100000 in
set_option maxHeartbeats 1000000 in
theorem lawOf_any (wide high : Int) (a : Option Addr) (n cap : Nat) (ts : List TileT) (hl : ts.length = n) (hc : n ≤ cap) (hc2 : cap ≤ 9223372036854775807) (hcol : ∀ t ∈ ts, ∀ c ∈ t.1, okC c) (w : World) (he : Elems w (.slice a n cap) n 256 (rowC encT ts)) :
 Calls Tryz.prog 5 #[.agg #[.int .i64 wide, .int .i64 high, .slice a n cap]] w (GivesOf (okE wide high (ts.take 17).length) ⟨wide.toNat, high.toNat, ts.take 17⟩ wide high (ts.take 17) w) := by
 obtain ⟨m, hm⟩ : ∃ m, min n 17 = m := ⟨_, rfl⟩
 have hlm : (ts.take 17).length = m := by rw [List.length_take, hl, Nat.min_comm]; exact hm
 have htk : ts.take 17 = ts.take m := by
  by_cases h17 : n ≤ 17
  · rw [List.take_of_length_le (by omega), List.take_of_length_le (by omega)]
  · rw [show m = 17 by omega]
 have het := Elems.take encT_len hl he (show m ≤ n by omega)
 rw [← htk] at het
 have HCL := Lib.hid (fun w' (hb : Below w.heap.size w w') => cloneT_any (.slice a m cap) (ts.take 17) w' (by rw [hlm]; exact het.below hb) (by rw [hlm]; omega))
 have HCO := Lib.hid (show ∀ t ∈ ts.take 17, ∀ c ∈ t.1, okC c from fun t ht => hcol t (List.mem_of_mem_take ht))
 obtain ⟨us, hus⟩ : ∃ us, ts.take 17 = us := ⟨_, rfl⟩
 rw [hus] at HCL HCO hlm ⊢
 have HLM := Lib.hid hlm
 have HMB := Lib.hid (show m ≤ n ∧ m ≤ cap ∧ min (n : Int) 17 = (m : Int) by omega)
 have HS := Lib.hid (St.start w)
 obtain ⟨ok, hok⟩ : ∃ ok, okE wide high us.length = ok := ⟨_, rfl⟩
 have HOK := Lib.hid hok
 rw [hok]
 clear he het hl hcol hm htk hus hok hlm
 go_enter Tryz.func5, Tryz.ntmps5
 repeat ((fail_if_success (with_reducible refine stop_at (id := 1) ?_)); (first | go_values | go_skip | go_guarded | go_step | go_upon | go_back | (simp only [Int.not_lt, Int.not_le] at *; go_simp) | (go_values <;> (try go_simp)) | (go_ite <;> go_prune <;> (try go_simp)) | (split <;> (first | (rename_i hx; exact (hx _ rfl).elim) | go_prune))))
 have hs_ := ((HS.out.alloc (.cells #[.int .i64 wide, .int .i64 high, .slice a n cap] 24)).alloc (.cells #[.int .i64 0, .int .i64 0, .slice none 0 0] 24))
 obtain ⟨w1, hw_⟩ : ∃ w1 : World, ((w.alloc (.cells #[.int .i64 wide, .int .i64 high, .slice a n cap] 24)).alloc (.cells #[.int .i64 0, .int .i64 0, .slice none 0 0] 24)) = w1 := ⟨_, rfl⟩
 rw [hw_] at hs_
 try simp only [World.size_alloc] at hs_
 have HS := Lib.hid hs_
 rw [hw_]
 clear hw_ hs_
 have HW1 := Lib.hid (show w.heap.size + 1 < w1.heap.size from HS.out.lt 0 rfl)
 refine (wpIn_wide (n := 0)).1 ?_
 apply wp_region_vals 14 (Rl := [(eqv _), (eqv _), (eqv _), (eqv _), (eqv _), (eqv _), (eqv _), (eqv _), (eqv _), (eqv _), (eqv _), (fun v_ w_ => RowGotT w1.heap.size w_ v_ us), (fun v_ w_ => ∃ a' c', v_ = .agg #[.int .i64 wide, .int .i64 high, .slice a' us.length c'] ∧ RowGotT w1.heap.size w_ (.slice a' us.length c') us), (fun v_ w_ => ∃ q, v_ = .pointer (some ⟨q, 0, none⟩) ∧ w1.heap.size ≤ q ∧ w_.heap[q]? = some (.cells #[.int .i64 0, .int .i64 0, .slice none 0 0] 24 (0, 0)))]) (C := (fun x y => Below x.heap.size x y))
 case hm => kernel_rfl
 case hk => rfl
 case hCr => exact (fun _ => Below.refl _ _)
 case hCt => intro _ _ _; exact (fun h k => grows_trans h k)
 case hst => exact ⟨fun _ _ _ _ h => h, fun _ _ _ _ h => h, fun _ _ _ _ h => h, fun _ _ _ _ h => h, fun _ _ _ _ h => h, fun _ _ _ _ h => h, fun _ _ _ _ h => h, fun _ _ _ _ h => h, fun _ _ _ _ h => h, fun _ _ _ _ h => h, fun _ _ _ _ h => h, fun _ _ _ hC h => h.below hC, fun _ _ _ hC ⟨a', c', e, h⟩ => ⟨a', c', e, h.below hC⟩, fun _ _ _ hC ⟨q, e, h1, h2⟩ => ⟨q, e, h1, (hC.block _ (block_lt h2)).trans h2⟩, trivial⟩
 case hfo => kernel_rfl
 case ht => kernel_rfl
 case hC0 => exact (grows_drew _)
 case hsteps =>
  refine ⟨?_, ?_, ?_, ?_, ?_, ?_, ?_, ?_, ?_, ?_, ?_, ?_, ?_, ?_, trivial⟩
  · intro a' w' hA hC hD; have s1 : a'.tmps[1]? = some _ := (hA.at 1 (by kernel_rfl)).trans rfl; clear hA hD; refine stepOk_plain rfl ?_; intro K hK; gi_wp2; exact hK _ _ rfl ((fun _ => Below.refl _ _) _)
  · intro a' w' hA hC hD; obtain ⟨u8, s8, r8⟩ := hD ⟨0, .data⟩ (by simp) rfl _ rfl; replace r8 : u8 = _ := r8; subst r8
    have h1_ := (HS.out.below hC).blockAt 1 rfl; have c1_0 := cell_of_block (k := 0) h1_ rfl; have c1_1 := cell_of_block (k := 1) h1_ rfl; have c1_2 := cell_of_block (k := 2) h1_ rfl; clear h1_
    clear hA hD; refine stepOk_plain rfl ?_; intro K hK; gi_wp2; exact hK _ _ rfl ((fun _ => Below.refl _ _) _)
  · intro a' w' hA hC hD; have s1 : a'.tmps[1]? = some _ := (hA.at 1 (by kernel_rfl)).trans rfl; clear hA hD; refine stepOk_plain rfl ?_; intro K hK; gi_wp2; exact hK _ _ rfl ((fun _ => Below.refl _ _) _)
  · intro a' w' hA hC hD; obtain ⟨u10, s10, r10⟩ := hD ⟨2, .data⟩ (by simp) rfl _ rfl; replace r10 : u10 = _ := r10; subst r10
    have h1_ := (HS.out.below hC).blockAt 1 rfl; have c1_0 := cell_of_block (k := 0) h1_ rfl; have c1_1 := cell_of_block (k := 1) h1_ rfl; have c1_2 := cell_of_block (k := 2) h1_ rfl; clear h1_
    clear hA hD; refine stepOk_plain rfl ?_; intro K hK; gi_wp2; exact hK _ _ rfl ((fun _ => Below.refl _ _) _)
  · intro a' w' hA hC hD; have s1 : a'.tmps[1]? = some _ := (hA.at 1 (by kernel_rfl)).trans rfl; clear hA hD; refine stepOk_plain rfl ?_; intro K hK; gi_wp2; exact hK _ _ rfl ((fun _ => Below.refl _ _) _)
  · intro a' w' hA hC hD; obtain ⟨u12, s12, r12⟩ := hD ⟨4, .data⟩ (by simp) rfl _ rfl; replace r12 : u12 = _ := r12; subst r12
    have h1_ := (HS.out.below hC).blockAt 1 rfl; have c1_0 := cell_of_block (k := 0) h1_ rfl; have c1_1 := cell_of_block (k := 1) h1_ rfl; have c1_2 := cell_of_block (k := 2) h1_ rfl; clear h1_
    clear hA hD; refine stepOk_plain rfl ?_; intro K hK; gi_wp2; exact hK _ _ rfl ((fun _ => Below.refl _ _) _)
  · intro a' w' hA hC hD; have s1 : a'.tmps[1]? = some _ := (hA.at 1 (by kernel_rfl)).trans rfl; clear hA hD; refine stepOk_plain rfl ?_; intro K hK; gi_wp2; exact hK _ _ rfl ((fun _ => Below.refl _ _) _)
  · intro a' w' hA hC hD; obtain ⟨u14, s14, r14⟩ := hD ⟨6, .data⟩ (by simp) rfl _ rfl; replace r14 : u14 = _ := r14; subst r14
    have h1_ := (HS.out.below hC).blockAt 1 rfl; have c1_0 := cell_of_block (k := 0) h1_ rfl; have c1_1 := cell_of_block (k := 1) h1_ rfl; have c1_2 := cell_of_block (k := 2) h1_ rfl; clear h1_
    clear hA hD; refine stepOk_plain rfl ?_; intro K hK; gi_wp2; exact hK _ _ rfl ((fun _ => Below.refl _ _) _)
  · intro a' w' hA hC hD; obtain ⟨u15, s15, r15⟩ := hD ⟨7, .data⟩ (by simp) rfl _ rfl; replace r15 : u15 = _ := r15; subst r15; clear hA hD; refine stepOk_plain rfl ?_; intro K hK; gi_wp2; exact hK _ _ rfl ((fun _ => Below.refl _ _) _)
  · intro a' w' hA hC hD; obtain ⟨u16, s16, r16⟩ := hD ⟨8, .data⟩ (by simp) rfl _ rfl; replace r16 : u16 = _ := r16; subst r16
    have e1 := HMB.out.2.2
    clear hA hD; refine stepOk_plain rfl ?_; intro K hK; gi_wp2; exact hK _ _ rfl ((fun _ => Below.refl _ _) _)
  · intro a' w' hA hC hD; obtain ⟨u13, s13, r13⟩ := hD ⟨5, .data⟩ (by simp) rfl _ rfl; replace r13 : u13 = _ := r13; subst r13; obtain ⟨u17, s17, r17⟩ := hD ⟨9, .data⟩ (by simp) rfl _ rfl; replace r17 : u17 = _ := r17; subst r17
    have e1 := HMB.out.2.1; have e2 := HMB.out.1
    clear hA hD; refine stepOk_plain rfl ?_; intro K hK; gi_wp2; exact hK _ _ rfl ((fun _ => Below.refl _ _) _)
  · intro a' w' hA hC hD; obtain ⟨u18, s18, r18⟩ := hD ⟨10, .data⟩ (by simp) rfl _ rfl; replace r18 : u18 = _ := r18; subst r18; clear hA hD; refine stepOk_plain rfl ?_; intro K hK
    gi_wp2_with fail; refine (callsIn_wide.2 (HCL.out _ (HS.out.below hC).low)).mono ?_; rintro e w5 h5; obtain ⟨v5, rfl, hr5, hb5⟩ := Cloned.gotT' h5
    exact hK _ _ ⟨(by obtain ⟨a', c', h1, h2, h3, h4⟩ := hr5.1; exact ⟨a', c', h1, h2, fun ad e => Nat.le_trans hC.size (h3 ad e), h4⟩), hr5.2⟩ hb5
  · intro a' w' hA hC hD; obtain ⟨u9, s9, r9⟩ := hD ⟨1, .data⟩ (by simp) rfl _ rfl; replace r9 : u9 = _ := r9; subst r9; obtain ⟨u11, s11, r11⟩ := hD ⟨3, .data⟩ (by simp) rfl _ rfl; replace r11 : u11 = _ := r11; subst r11; obtain ⟨u19, s19, r19⟩ := hD ⟨11, .data⟩ (by simp) rfl _ rfl; replace r19 : (fun v_ w_ => RowGotT w1.heap.size w_ v_ us) u19 w' := r19; clear hA hD; refine stepOk_plain rfl ?_; intro K hK
    obtain ⟨⟨a', c', e19, hr19⟩, hr20⟩ := r19; subst e19; gi_wp2
    exact hK _ _ ⟨a', c', rfl, ⟨a', c', rfl, hr19⟩, hr20⟩ (Below.refl _ _)
  · intro a' w' hA hC hD; clear hA hD; refine stepOk_plain rfl ?_; intro K hK; gi_wp2; exact hK _ _ ⟨w'.heap.size, rfl, hC.size, World.alloc_heap_new _ _⟩ ((Below.refl _ _).alloc (Nat.le_refl _) _)
 case hend =>
  intro w2 hC
  simp only [EndFrom, eqv, forall_eq, Act.put, List.length_cons, List.length_nil, List.drop_succ_cons, List.drop_zero, Nat.reduceAdd, List.setIfInBounds_toArray, List.set_cons_succ, List.set_cons_zero]
  rintro v11 - v12 ⟨a3, c3, rfl, hrg⟩ v13 ⟨q, rfl, hq1, hq2⟩
  have hs3 := (HS.out.below hC).addC hq2 (fun i hi => by
   simp only [List.mem_cons, List.not_mem_nil, or_false] at hi
   rcases hi with rfl | rfl
   · have := HS.out.lt 0 rfl; simp only [It.top]; omega
   · have := HS.out.lt 1 rfl; simp only [It.top]; omega) (Nat.le_trans HS.out.size hq1)
  have HS := Lib.hid hs3
  have hqa : ∀ ad, a3 = some ad → q ≠ ad.block := fun ad e e2 => by
   obtain ⟨cs, f, h1⟩ := hrg.2 ad _ _ (by rw [e])
   rw [← e2, hq2] at h1
   simp at h1
  obtain ⟨a4, c4, e4, hc4, hlo4, he4⟩ := hrg.1
  injection e4 with e5 e6 e7
  subst e5 e7
  have HE4 := Lib.hid (And.intro hc4 (((he4.other hqa 0 (.int .i64 wide)).other hqa 1 (.int .i64 high)).other hqa 2 (.slice a3 us.length c3)))
  have HLO := Lib.hid hlo4
  clear hC hq1 hq2 hs3 hrg hqa hc4 he4 hlo4
  have k0 := cell_of_block (k := 0) (HS.out.blockAt 0 rfl) rfl
  have k1 := cell_of_block (k := 1) (HS.out.blockAt 0 rfl) rfl
  have k2 := cell_of_block (k := 2) (HS.out.blockAt 0 rfl) rfl
  have f0 := free_of_block (HS.out.blockAt 0 rfl)
  gi_wp2
  clear k0 k1 k2 f0
  have hs4 := ((HS.out.put0 0 (.int .i64 wide) rfl).put0 1 (.int .i64 high) rfl).put0 2 (.slice a3 us.length c3) rfl
  obtain ⟨w3, hw3⟩ : ∃ w3, ((w2.setCell ⟨q, 0, none⟩ (.int .i64 wide)).setCell ⟨q, 1, none⟩ (.int .i64 high)).setCell ⟨q, 2, none⟩ (.slice a3 us.length c3) = w3 := ⟨_, rfl⟩
  rw [hw3] at hs4 HE4
  rw [hw3]
  have HS := Lib.hid hs4
  clear hs4 hw3
  have k0 := cell_of_block (k := 0) (HS.out.blockAt 0 rfl) rfl
  have k1 := cell_of_block (k := 1) (HS.out.blockAt 0 rfl) rfl
  have k2 := cell_of_block (k := 2) (HS.out.blockAt 0 rfl) rfl
  go_wp2_with fail
  clear k0 k1 k2
  refine (ofBoth wide high a3 c3 us HCO.out w3 HE4.out.2).mono ?_
  rw [HOK.out]
  rintro e w4 ⟨v, rfl, hb4, hv1, hv2⟩
  have HS := Lib.hid (HS.out.below hb4)
  have HE4 := Lib.hid (And.intro HE4.out.1 (HE4.out.2.below hb4))
  have HV := Lib.hid (And.intro hv1 hv2)
  clear hb4 hv1 hv2
  have HQB := Lib.hid (show q ≠ w.heap.size + 1 from fun e => by have h := HS.out.ord; simp [ItOrd, It.top] at h; omega)
  repeat ((fail_if_success (with_reducible refine stop_at (id := 3) ?_)); (first | go_values | go_skip | go_guarded | go_step | go_upon | go_back | (simp only [Int.not_lt, Int.not_le] at *; go_simp) | (go_values <;> (try go_simp)) | (go_ite <;> go_prune <;> (try go_simp)) | (split <;> (first | (rename_i hx; exact (hx _ rfl).elim) | go_prune))))
  refine (wpIn_wide (n := 0)).1 ?_
  cases ok with
  | true =>
   obtain ⟨p, rfl, hcp⟩ := HV.out.1 rfl
   have HCP := Lib.hid hcp
   clear hcp HV HCL HMB hc hc2 HLM
   rw [errOf_true]
   apply wp_region_vals 11 (Rl := [(eqv _), (eqv _), (eqv _), (eqv _), (eqv _), (eqv _), (eqv _), (eqv _), (eqv _), (fun v_ w_ => w_.heap[w.heap.size + 1]? = some (.cells #[.int .i64 wide, .int .i64 high, .slice a3 us.length c3] 24 (0, 0))), (eqv _)]) (C := (fun x y => Fill1 w.heap.size (w.heap.size + 1) (.cells #[.int .i64 0, .int .i64 0, .slice none 0 0] 24 (0, 0)) (.cells #[.int .i64 wide, .int .i64 high, .slice a3 us.length c3] 24 (0, 0)) x y))
   case hm => kernel_rfl
   case hk => rfl
   case hCr => exact (fun x => Fill1.refl _ _ _ _ x)
   case hCt => intro _ _ _; exact (fun h k => Fill1.trans h k)
   case hst => exact ⟨fun _ _ _ _ h => h, fun _ _ _ _ h => h, fun _ _ _ _ h => h, fun _ _ _ _ h => h, fun _ _ _ _ h => h, fun _ _ _ _ h => h, fun _ _ _ _ h => h, fun _ _ _ _ h => h, fun _ _ _ _ h => h, fun _ _ _ hC h => hC.done h, fun _ _ _ _ h => h, trivial⟩
   case hfo => kernel_rfl
   case ht => kernel_rfl
   case hC0 => exact (Fill1.drew _ _ _ _ _)
   case hsteps =>
    refine ⟨?_, ?_, ?_, ?_, ?_, ?_, ?_, ?_, ?_, ?_, ?_, trivial⟩
    · intro a' w' hA hC hD; have s6 : a'.tmps[6]? = some _ := (hA.at 6 (by kernel_rfl)).trans rfl; clear hA hD; refine stepOk_plain rfl ?_; intro K hK; gi_wp2; exact hK _ _ rfl ((fun x => Fill1.refl _ _ _ _ x) _)
    · intro a' w' hA hC hD; have s5 : a'.tmps[5]? = some _ := (hA.at 5 (by kernel_rfl)).trans rfl
      have hq5 := hC.other q _ HQB.out (HS.out.blockAt 0 rfl); have k0 := cell_of_block (k := 0) hq5 rfl; have k1 := cell_of_block (k := 1) hq5 rfl; have k2 := cell_of_block (k := 2) hq5 rfl; clear hq5
      clear hA hD; refine stepOk_plain rfl ?_; intro K hK; gi_wp2; exact hK _ _ rfl ((fun x => Fill1.refl _ _ _ _ x) _)
    · intro a' w' hA hC hD; have s7 : a'.tmps[7]? = some _ := (hA.at 7 (by kernel_rfl)).trans rfl; clear hA hD; refine stepOk_plain rfl ?_; intro K hK; gi_wp2; exact hK _ _ rfl ((fun x => Fill1.refl _ _ _ _ x) _)
    · intro a' w' hA hC hD; obtain ⟨u28, s28, r28⟩ := hD ⟨2, .data⟩ (by simp) rfl _ rfl; replace r28 : u28 = _ := r28; subst r28; clear hA hD; refine stepOk_plain rfl ?_; intro K hK; gi_wp2; exact hK _ _ rfl ((fun x => Fill1.refl _ _ _ _ x) _)
    · intro a' w' hA hC hD; obtain ⟨u29, s29, r29⟩ := hD ⟨3, .data⟩ (by simp) rfl _ rfl; replace r29 : u29 = _ := r29; subst r29; clear hA hD; refine stepOk_plain rfl ?_; intro K hK; gi_wp2; exact hK _ _ rfl ((fun x => Fill1.refl _ _ _ _ x) _)
    · intro a' w' hA hC hD; have s6 : a'.tmps[6]? = some _ := (hA.at 6 (by kernel_rfl)).trans rfl; obtain ⟨u30, s30, r30⟩ := hD ⟨4, .guard⟩ (by simp) rfl _ rfl; replace r30 : u30 = _ := r30; subst r30; clear hA hD; refine stepOk_want rfl rfl s30 ?_; intro K hK; gi_wp2; exact hK _ _ rfl ((fun x => Fill1.refl _ _ _ _ x) _)
    · intro a' w' hA hC hD; obtain ⟨u31, s31, r31⟩ := hD ⟨5, .data⟩ (by simp) rfl _ rfl; replace r31 : u31 = _ := r31; subst r31; obtain ⟨u30, s30, r30⟩ := hD ⟨4, .guard⟩ (by simp) rfl _ rfl; replace r30 : u30 = _ := r30; subst r30; clear hA hD; refine stepOk_want rfl rfl s30 ?_; intro K hK; gi_wp2; exact hK _ _ rfl ((fun x => Fill1.refl _ _ _ _ x) _)
    · intro a' w' hA hC hD; obtain ⟨u30, s30, r30⟩ := hD ⟨4, .data⟩ (by simp) rfl _ rfl; replace r30 : u30 = _ := r30; subst r30; obtain ⟨u32, s32, r32⟩ := hD ⟨6, .data⟩ (by simp) rfl _ rfl; replace r32 : u32 = _ := r32; subst r32; clear hA hD; refine stepOk_plain rfl ?_; intro K hK; gi_wp2; exact hK _ _ rfl ((fun x => Fill1.refl _ _ _ _ x) _)
    · intro a' w' hA hC hD; obtain ⟨u26, s26, r26⟩ := hD ⟨0, .data⟩ (by simp) rfl _ rfl; replace r26 : u26 = _ := r26; subst r26; clear hA hD; refine stepOk_plain rfl ?_; intro K hK; gi_wp2; exact hK _ _ rfl ((fun x => Fill1.refl _ _ _ _ x) _)
    · intro a' w' hA hC hD; have s3 : a'.tmps[3]? = some _ := (hA.at 3 (by kernel_rfl)).trans rfl; obtain ⟨u27, s27, r27⟩ := hD ⟨1, .data⟩ (by simp) rfl _ rfl; replace r27 : u27 = _ := r27; subst r27
      obtain ⟨y0, y1, y2, hy⟩ := either3' (hC.fill (HS.out.blockAt 1 rfl)); have d0 := cell_of_block (k := 0) (v := y0) hy rfl; have d1 := cell_of_block (k := 1) (v := y1) hy rfl; have d2 := cell_of_block (k := 2) (v := y2) hy rfl; have fr := free_of_block hy
      clear hA hD; refine stepOk_plain rfl ?_; intro K hK; gi_wp2; exact hK undef _ (set3h hy) (fill1_3 (Nat.le_succ _) hy).1
    · intro a' w' hA hC hD; obtain ⟨u33, s33, r33⟩ := hD ⟨7, .data⟩ (by simp) rfl _ rfl; replace r33 : u33 = _ := r33; subst r33; clear hA hD; refine stepOk_plain rfl ?_; intro K hK; gi_wp2; exact hK _ _ rfl ((fun x => Fill1.refl _ _ _ _ x) _)
   case hend =>
    intro w5 hC
    simp only [EndFrom, eqv, forall_eq, Act.put, List.length_cons, List.length_nil, List.drop_succ_cons, List.drop_zero, Nat.reduceAdd, List.setIfInBounds_toArray, List.set_cons_succ, List.set_cons_zero]
    intro v9 h9
    have ht := hC.turned
    have hs5 := HS.out.turn (pre := [.blk q (.cells #[.int .i64 wide, .int .i64 high, .slice a3 us.length c3] 24 (0, 0))]) (by simp) h9 ht
    simp only [List.cons_append, List.nil_append] at hs5
    have HS4 := HS
    have HS := Lib.hid hs5
    have HE5 := Lib.hid (HE4.out.2.turned ht (fun ad e => by have h1 := HLO.out ad e; have h2 := HW1.out; omega))
    have HCP5 := Lib.hid (HCP.out.turned rfl (HS4.out.blockAt 1 rfl) ht)
    clear hs5 h9 hC ht
    have k0 := cell_of_block (k := 0) (HS.out.blockAt 1 rfl) rfl
    have k1 := cell_of_block (k := 1) (HS.out.blockAt 1 rfl) rfl
    have k2 := cell_of_block (k := 2) (HS.out.blockAt 1 rfl) rfl
    gi_wp2_with fail
    go_wp2_with fail
    refine bodyPost_ret (v := .tuple #[.pointer (some ⟨p, 0, none⟩), .agg #[.int .i64 wide, .int .i64 high, .slice a3 us.length c3], .bool true]) (by simp [results, Tryz.results5, go_sem, k0, k1, k2]) rfl ⟨_, _, rfl, HS.out.low, ⟨a3, c3, rfl, HE4.out.1, HE5.out⟩, fun _ => ⟨p, rfl, HCP5.out⟩, fun h => (by cases h)⟩
  | false =>
   obtain rfl := HV.out.2 rfl
   clear HV HCL HMB hc hc2 HLM
   rw [errOf_false]
   apply wp_region_vals 11 (Rl := [(eqv _), (eqv _), (eqv _), (eqv _), (eqv _), (fun v_ _ => v_ = (undef : Value)), (fun v_ _ => v_ = (undef : Value)), (eqv _), (eqv _), (fun v_ w_ => w_.heap[w.heap.size + 1]? = some (.cells #[.int .i64 wide, .int .i64 high, .slice a3 us.length c3] 24 (0, 0))), (eqv _)]) (C := (fun x y => Fill1 w.heap.size (w.heap.size + 1) (.cells #[.int .i64 0, .int .i64 0, .slice none 0 0] 24 (0, 0)) (.cells #[.int .i64 wide, .int .i64 high, .slice a3 us.length c3] 24 (0, 0)) x y))
   case hm => kernel_rfl
   case hk => rfl
   case hCr => exact (fun x => Fill1.refl _ _ _ _ x)
   case hCt => intro _ _ _; exact (fun h k => Fill1.trans h k)
   case hst => exact ⟨fun _ _ _ _ h => h, fun _ _ _ _ h => h, fun _ _ _ _ h => h, fun _ _ _ _ h => h, fun _ _ _ _ h => h, fun _ _ _ _ h => h, fun _ _ _ _ h => h, fun _ _ _ _ h => h, fun _ _ _ _ h => h, fun _ _ _ hC h => hC.done h, fun _ _ _ _ h => h, trivial⟩
   case hfo => kernel_rfl
   case ht => kernel_rfl
   case hC0 => exact (Fill1.drew _ _ _ _ _)
   case hsteps =>
    refine ⟨?_, ?_, ?_, ?_, ?_, ?_, ?_, ?_, ?_, ?_, ?_, trivial⟩
    · intro a' w' hA hC hD; have s6 : a'.tmps[6]? = some _ := (hA.at 6 (by kernel_rfl)).trans rfl; clear hA hD; refine stepOk_plain rfl ?_; intro K hK; gi_wp2; exact hK _ _ rfl ((fun x => Fill1.refl _ _ _ _ x) _)
    · intro a' w' hA hC hD; have s5 : a'.tmps[5]? = some _ := (hA.at 5 (by kernel_rfl)).trans rfl
      have hq5 := hC.other q _ HQB.out (HS.out.blockAt 0 rfl); have k0 := cell_of_block (k := 0) hq5 rfl; have k1 := cell_of_block (k := 1) hq5 rfl; have k2 := cell_of_block (k := 2) hq5 rfl; clear hq5
      clear hA hD; refine stepOk_plain rfl ?_; intro K hK; gi_wp2; exact hK _ _ rfl ((fun x => Fill1.refl _ _ _ _ x) _)
    · intro a' w' hA hC hD; have s7 : a'.tmps[7]? = some _ := (hA.at 7 (by kernel_rfl)).trans rfl; clear hA hD; refine stepOk_plain rfl ?_; intro K hK; gi_wp2; exact hK _ _ rfl ((fun x => Fill1.refl _ _ _ _ x) _)
    · intro a' w' hA hC hD; obtain ⟨u28, s28, r28⟩ := hD ⟨2, .data⟩ (by simp) rfl _ rfl; replace r28 : u28 = _ := r28; subst r28; clear hA hD; refine stepOk_plain rfl ?_; intro K hK; gi_wp2; exact hK _ _ rfl ((fun x => Fill1.refl _ _ _ _ x) _)
    · intro a' w' hA hC hD; obtain ⟨u29, s29, r29⟩ := hD ⟨3, .data⟩ (by simp) rfl _ rfl; replace r29 : u29 = _ := r29; subst r29; clear hA hD; refine stepOk_plain rfl ?_; intro K hK; gi_wp2; exact hK _ _ rfl ((fun x => Fill1.refl _ _ _ _ x) _)
    · intro a' w' hA hC hD; have s6 : a'.tmps[6]? = some _ := (hA.at 6 (by kernel_rfl)).trans rfl; obtain ⟨u30, s30, r30⟩ := hD ⟨4, .guard⟩ (by simp) rfl _ rfl; replace r30 : u30 = _ := r30; subst r30; clear hA hD
      exact stepOk_skip rfl rfl s30 rfl
    · intro a' w' hA hC hD; obtain ⟨u31, s31, r31⟩ := hD ⟨5, .data⟩ (by simp) rfl _ rfl; replace r31 : u31 = undef := r31; subst r31; obtain ⟨u30, s30, r30⟩ := hD ⟨4, .guard⟩ (by simp) rfl _ rfl; replace r30 : u30 = _ := r30; subst r30; clear hA hD
      exact stepOk_skip rfl rfl s30 rfl
    · intro a' w' hA hC hD; obtain ⟨u30, s30, r30⟩ := hD ⟨4, .data⟩ (by simp) rfl _ rfl; replace r30 : u30 = _ := r30; subst r30; obtain ⟨u32, s32, r32⟩ := hD ⟨6, .data⟩ (by simp) rfl _ rfl; replace r32 : u32 = undef := r32; subst r32; clear hA hD; refine stepOk_plain rfl ?_; intro K hK; gi_wp2; exact hK _ _ rfl ((fun x => Fill1.refl _ _ _ _ x) _)
    · intro a' w' hA hC hD; obtain ⟨u26, s26, r26⟩ := hD ⟨0, .data⟩ (by simp) rfl _ rfl; replace r26 : u26 = _ := r26; subst r26; clear hA hD; refine stepOk_plain rfl ?_; intro K hK; gi_wp2; exact hK _ _ rfl ((fun x => Fill1.refl _ _ _ _ x) _)
    · intro a' w' hA hC hD; have s3 : a'.tmps[3]? = some _ := (hA.at 3 (by kernel_rfl)).trans rfl; obtain ⟨u27, s27, r27⟩ := hD ⟨1, .data⟩ (by simp) rfl _ rfl; replace r27 : u27 = _ := r27; subst r27
      obtain ⟨y0, y1, y2, hy⟩ := either3' (hC.fill (HS.out.blockAt 1 rfl)); have d0 := cell_of_block (k := 0) (v := y0) hy rfl; have d1 := cell_of_block (k := 1) (v := y1) hy rfl; have d2 := cell_of_block (k := 2) (v := y2) hy rfl; have fr := free_of_block hy
      clear hA hD; refine stepOk_plain rfl ?_; intro K hK; gi_wp2; exact hK undef _ (set3h hy) (fill1_3 (Nat.le_succ _) hy).1
    · intro a' w' hA hC hD; obtain ⟨u33, s33, r33⟩ := hD ⟨7, .data⟩ (by simp) rfl _ rfl; replace r33 : u33 = _ := r33; subst r33; clear hA hD; refine stepOk_plain rfl ?_; intro K hK; gi_wp2; exact hK _ _ rfl ((fun x => Fill1.refl _ _ _ _ x) _)
   case hend =>
    intro w5 hC
    simp only [EndFrom, eqv, forall_eq, Act.put, List.length_cons, List.length_nil, List.drop_succ_cons, List.drop_zero, Nat.reduceAdd, List.setIfInBounds_toArray, List.set_cons_succ, List.set_cons_zero]
    intro v9 h9
    have ht := hC.turned
    have hs5 := HS.out.turn (pre := [.blk q (.cells #[.int .i64 wide, .int .i64 high, .slice a3 us.length c3] 24 (0, 0))]) (by simp) h9 ht
    simp only [List.cons_append, List.nil_append] at hs5
    have HS4 := HS
    have HS := Lib.hid hs5
    have HE5 := Lib.hid (HE4.out.2.turned ht (fun ad e => by have h1 := HLO.out ad e; have h2 := HW1.out; omega))
    clear hs5 h9 hC ht
    have k0 := cell_of_block (k := 0) (HS.out.blockAt 1 rfl) rfl
    have k1 := cell_of_block (k := 1) (HS.out.blockAt 1 rfl) rfl
    have k2 := cell_of_block (k := 2) (HS.out.blockAt 1 rfl) rfl
    gi_wp2_with fail
    go_wp2_with fail
    refine bodyPost_ret (v := .tuple #[.pointer none, .agg #[.int .i64 wide, .int .i64 high, .slice a3 us.length c3], .bool false]) (by simp [results, Tryz.results5, go_sem, k0, k1, k2]) rfl ⟨_, _, rfl, HS.out.low, ⟨a3, c3, rfl, HE4.out.1, HE5.out⟩, fun h => (by cases h), fun _ => rfl⟩
end Go.Proofs.YtodpkgbpcpfamaaGreat
