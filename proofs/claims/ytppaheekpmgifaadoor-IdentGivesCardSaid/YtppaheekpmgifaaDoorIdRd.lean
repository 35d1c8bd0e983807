/- The document's Read. -/
import Derived.Test.YtppaheekpmgifaaDoorIdRc
import Derived.Test.YtppaheekpmgifaaDoorIdX
import Derived.Test.YtppaheekpmgifaaDoorIdT
import Derived.Test.YtppaheekpmgifaaDoorIdN
namespace Go.Proofs.YtppaheekpmgifaaDoor
set_option linter.unusedSimpArgs false
set_option linter.unusedVariables false
open Go.RowKit Go.Shelf Go.Lib

theorem infoStr : (Tryd.prog.info? 9).map (fun i => (i.zero, i.size, i.bytes)) = some (some (.string ByteArray.empty), 1, 16) := by kernel_rfl
theorem ownsRow_strings {w : World} {base e : Nat} {v : Value} {L : List ByteArray} (h : w.ownsRow base e 1 v L.length (L.map Value.string)) : (v = .slice none 0 0 ∧ L = []) ∨ ∃ g cap, v = .slice (some ⟨g, 0, none⟩) L.length cap := by
  rcases h.2 with ⟨e1, e2⟩ | ⟨g, cap, cur, rfl, _⟩
  · exact .inl ⟨e1, List.eq_nil_of_length_eq_zero e2⟩
  · exact .inr ⟨g, cap, rfl⟩
theorem cellLt {w : World} {a : Addr} {v : Value} (h : w.cell? a = some v) : a.block < w.heap.size := by
  rcases Nat.lt_or_ge a.block w.heap.size with h1 | h1
  · exact h1
  · simp [World.cell?, Array.getElem?_eq_none h1] at h
theorem extract_size (s : ByteArray) (a b : Nat) (h : b ≤ s.size) : (s.extract a b).size = b - a := by simp; omega

/-- The number of a row of digits, in short. -/
theorem part_sum (A : ByteArray) (hA : A.size ≤ 1000000000) (w : World) : Calls Tryd.prog 38 #[.string A] w fun e w' =>
    (∃ (n : Nat) (ok : Bool), n < 18446744073709551616 ∧ e = .returned (.tuple #[.int .u64 (n : Int), .bool ok]) ∧ (∀ u, u ≤ 4611686018427387904 → A = ⟨(decDigits u).toArray⟩ → n = u ∧ ok = true)) ∧ Below w.heap.size w w' := by
  refine (refPart_any A hA w).mono ?_
  rintro e w' ⟨⟨hall, rfl⟩ | ⟨hno, rfl⟩, hb⟩
  · refine ⟨⟨partN A A.size, _, ?_, rfl, fun u hu he => ?_⟩, hb⟩
    · have := (partN_lt A A.size hall).1
      have h19 : (10 : Nat) ^ 19 = 10000000000000000000 := by decide
      omega
    · obtain ⟨_, h2, h3, h4⟩ := part_digits u hu A he
      exact ⟨h2, by simp [h3, h4]⟩
  · exact ⟨⟨0, false, by omega, rfl, fun u hu he => absurd (part_digits u hu A he).1 hno⟩, hb⟩
theorem read_parts {s A B C : ByteArray} (hp : (cuts s (s.size + 1)).1 = [A, B, C]) {n1 n2 n3 : Nat} {k1 k2 k3 : Bool} (h1 : ∀ u, u ≤ 4611686018427387904 → A = ⟨(decDigits u).toArray⟩ → n1 = u ∧ k1 = true)
    (h2 : ∀ u, u ≤ 4611686018427387904 → B = ⟨(decDigits u).toArray⟩ → n2 = u ∧ k2 = true) (h3 : ∀ u, u ≤ 4611686018427387904 → C = ⟨(decDigits u).toArray⟩ → n3 = u ∧ k3 = true) (i : IdT) (hi : idOk i = true) (hs : s = ⟨(idText i).toArray⟩) :
    (k1 = true ∧ k2 = true ∧ k3 = true) ∧ i = ⟨n1, n2, n3⟩ ∧ n2 ≤ 8 := by
  have hc := cuts_text i hi s hs
  rw [hp] at hc
  simp only [List.cons.injEq, and_true] at hc
  obtain ⟨rfl, rfl, rfl⟩ := hc
  obtain ⟨⟨b1, b2⟩, ⟨b3, b4⟩, b5, b6⟩ := (idOk_iff i).1 hi
  rw [maxT_eq] at b2 b6
  obtain ⟨e1, f1⟩ := h1 i.time.toNat (by omega) rfl
  obtain ⟨e2, f2⟩ := h2 i.site.toNat (by omega) rfl
  obtain ⟨e3, f3⟩ := h3 i.seq.toNat (by omega) rfl
  obtain ⟨t, q, u⟩ := i
  simp only at *
  refine ⟨⟨f1, f2, f3⟩, ?_, by omega⟩
  simp only [IdT.mk.injEq]
  omega
theorem read_three {s : ByteArray} (h : (cuts s (s.size + 1)).1.length ≠ 3) : IsRead s none := by
  intro i hi hs
  rw [cuts_text i hi s hs] at h
  exact h rfl

set_option maxRecDepth 100000 in
set_option maxHeartbeats 2000000 in
theorem refRead_any (s : ByteArray) (hs : s.size ≤ 1000) (w : World) : Calls Tryd.prog 13 #[.string s] w fun e w' =>
    (∃ (i : IdT) (o : Option IdT), IsRead s o ∧ e = .returned (.tuple #[i.val, .bool o.isSome]) ∧ (∀ j, o = some j → i = j)) ∧ Below w.heap.size w w' := by
  have HSZ := Lib.hid hs
  obtain ⟨i0, hi, hz0, hz1, hz2⟩ := info_parts infoStr
  go_enter Tryd.func13, Tryd.ntmps13
  go_wp2_with fail
  go_loopw [4, 5, 17] (fun v f i wr => ∃ k : Nat, k ≤ s.size + 1 ∧ i = .int .i64 (k : Int) ∧ f = .int .i64 ((cuts s k).2 : Int) ∧ wr.ownsRow (w.heap.size + 1) 9 1 v (cuts s k).1.length ((cuts s k).1.map Value.string) ∧
    Below w.heap.size w wr ∧ w.heap.size + 1 ≤ wr.heap.size ∧ wr.heap[w.heap.size]? = some (.cells #[.int .u64 0, .int .i64 0, .int .u64 0] 27 (0, 0))) (fun _ _ i _ => s.size + 1 - (intOf i).toNat)
  case atStart => 
    exact ⟨0, by omega, rfl, rfl, World.ownsRow_nil _ _ _ _, (Below.refl _ _).alloc (Nat.le_refl _) _, by simp, newBlock _ _ _ rfl⟩
  case round =>
    obtain ⟨k, hk, rfl, rfl, hrow, hb, hbase, hres⟩ := hrel
    have hcl := cuts_le s k
    have hcn := cuts_length s k
    obtain ⟨F, hF⟩ : ∃ F, (cuts s k).2 = F := ⟨_, rfl⟩
    have HROW := Lib.hid hrow
    have HB := Lib.hid hb
    have HBASE := Lib.hid hbase
    have HRES := Lib.hid hres
    clear hrow hb hbase hres
    by_cases hlt : k < s.size + 1
    · have wk : wrap64 ((k : Int) + 1) = ((k + 1 : Nat) : Int) := by unfold wrap64; omega
      by_cases hks : k = s.size
      · have HIT := Lib.hid (show k = s.size ∨ byteAt s k = 46 from .inl hks)
        have hq : ((k : Int) == (s.size : Int)) = true := by simp [hks]
        have hsl : ∀ w, (Instr.slice 9 (.string s) (some (.int .i64 (F : Int))) (some (.int .i64 (k : Int))) none).run Tryd.prog w = .ok (.string (s.extract F k)) w := by
          intro w
          have h := run_slice_string (P := Tryd.prog) (w := w) 9 s .i64 .i64 (F : Int) (k : Int) Tryd.underlying9 (by omega) (by omega) (by omega)
          simpa using h
        rw [hF] at hcl ⊢
        have HF := Lib.hid hF
        clear hF hks
        go_wp2_with (first
          | (at_builtin; refine wpList_append_own _ rfl _ _ 23 rfl (w.heap.size + 1) 9 i0 (.string ByteArray.empty) 1 16 Tryd.underlying23 hi hz0 hz1 hz2 rfl (by decide) _ _ _ rfl (HROW.out.alloc _) ⟨wr.heap.size, 0, none⟩ 1 1 [.string (s.extract F k)] rfl rfl (cells_of_block (newBlock wr _ _ rfl)) (fun x hx => by simp at hx; subst hx; rfl) (by unfold maxLen; omega) (by omega) (by simp; have := HBASE.out; omega) ?_; intro v' w3 hown' hgrow3 hnil3; have HOW := Lib.hid hown'; have HGR := Lib.hid hgrow3; clear hown' hgrow3 hnil3))
        go_roundw
        case rel =>
          have e : cuts s (k + 1) = ((cuts s k).1 ++ [s.extract F k], k + 1) := by show (if _ then _ else _) = _; rw [if_pos HIT.out, HF.out]
          have hbs := HB.out.size
          refine ⟨k + 1, by omega, by go_num, by rw [e]; go_num, ?_, ?_, ?_, ?_⟩
          · rw [e]; simpa using HOW.out
          · exact (HB.out.alloc (by omega) _).grown HGR.out (by simp; omega) (fun q hq => by have := (HROW.out.lt q hq).1; omega)
          · have := HGR.out.size; have := HBASE.out; simp at *; omega
          · rw [HGR.out.block _ (by simp; have := HBASE.out; omega) (fun hq => by have := (HROW.out.lt _ hq.symm).1; omega)]
            exact heap_alloc_keeps HRES.out _
        case measure => simp [intOf]; omega
      · have hq : ((k : Int) == (s.size : Int)) = false := by simp; omega
        have hg := run_index_byte s k (by omega)
        by_cases hc : byteAt s k = 46
        · have HIT := Lib.hid (show k = s.size ∨ byteAt s k = 46 from .inr hc)
          rw [hc] at hg
          have hsl : ∀ w, (Instr.slice 9 (.string s) (some (.int .i64 (F : Int))) (some (.int .i64 (k : Int))) none).run Tryd.prog w = .ok (.string (s.extract F k)) w := by
            intro w
            have h := run_slice_string (P := Tryd.prog) (w := w) 9 s .i64 .i64 (F : Int) (k : Int) Tryd.underlying9 (by omega) (by omega) (by omega)
            simpa using h
          rw [hF] at hcl ⊢
          have HF := Lib.hid hF
          clear hF hks hc
          go_wp2_with (first
            | (at_builtin; refine wpList_append_own _ rfl _ _ 23 rfl (w.heap.size + 1) 9 i0 (.string ByteArray.empty) 1 16 Tryd.underlying23 hi hz0 hz1 hz2 rfl (by decide) _ _ _ rfl (HROW.out.alloc _) ⟨wr.heap.size, 0, none⟩ 1 1 [.string (s.extract F k)] rfl rfl (cells_of_block (newBlock wr _ _ rfl)) (fun x hx => by simp at hx; subst hx; rfl) (by unfold maxLen; omega) (by omega) (by simp; have := HBASE.out; omega) ?_; intro v' w3 hown' hgrow3 hnil3; have HOW := Lib.hid hown'; have HGR := Lib.hid hgrow3; clear hown' hgrow3 hnil3))
          go_roundw
          case rel =>
            have e : cuts s (k + 1) = ((cuts s k).1 ++ [s.extract F k], k + 1) := by show (if _ then _ else _) = _; rw [if_pos HIT.out, HF.out]
            have hbs := HB.out.size
            refine ⟨k + 1, by omega, by go_num, by rw [e]; go_num, ?_, ?_, ?_, ?_⟩
            · rw [e]; simpa using HOW.out
            · exact (HB.out.alloc (by omega) _).grown HGR.out (by simp; omega) (fun q hq => by have := (HROW.out.lt q hq).1; omega)
            · have := HGR.out.size; have := HBASE.out; simp at *; omega
            · rw [HGR.out.block _ (by simp; have := HBASE.out; omega) (fun hq => by have := (HROW.out.lt _ hq.symm).1; omega)]
              exact heap_alloc_keeps HRES.out _
          case measure => simp [intOf]; omega
        · have hb46 : ((byteAt s k : Int) == 46) = false := by simp; omega
          have HNO := Lib.hid (show cuts s (k + 1) = cuts s k from by show (if _ then _ else _) = _; rw [if_neg (by omega)])
          clear hks hc
          go_wp2_with fail
          go_roundw
          case rel =>
            have e := HNO.out
            exact ⟨k + 1, by omega, by go_num, by rw [e], by rw [e]; exact HROW.out, HB.out, HBASE.out, HRES.out⟩
          case measure => simp [intOf]; omega
    · obtain rfl : k = s.size + 1 := by omega
      have wz := HRES.out
      have o0 := cell_of_block (k := 0) wz rfl
      have o1 := cell_of_block (k := 1) wz rfl
      have o2 := cell_of_block (k := 2) wz rfl
      have of := free_of_block wz
      clear wz hlt hk hcl hF
      by_cases h3 : (cuts s (s.size + 1)).1.length = 3
      · obtain ⟨A, B, C, hp⟩ : ∃ A B C, (cuts s (s.size + 1)).1 = [A, B, C] := by
          generalize (cuts s (s.size + 1)).1 = L at h3 ⊢
          rcases L with _ | ⟨A, _ | ⟨B, _ | ⟨C, _ | ⟨D, L⟩⟩⟩⟩ <;> simp at h3
          exact ⟨A, B, C, rfl⟩
        have hsz := cuts_size s (s.size + 1) (Nat.le_refl _)
        have hrow := HROW.out
        rw [hp] at hrow hsz
        simp only [List.mem_cons, List.not_mem_nil, or_false, forall_eq_or_imp, forall_eq] at hsz
        obtain ⟨sA, sB, sC⟩ := hsz
        obtain ⟨g, cap, rfl⟩ : ∃ g cap, u4 = .slice (some ⟨g, 0, none⟩) 3 cap := by
          rcases ownsRow_strings hrow with ⟨_, h⟩ | ⟨g, cap, rfl⟩
          · cases h
          · exact ⟨g, cap, rfl⟩
        have hcl := hrow.cells rfl
        have hc0 := hcl 0 _ rfl
        have hc1 := hcl 1 _ rfl
        have hc2 := hcl 2 _ rfl
        have e0 : (⟨g, 0, none⟩ : Addr).add 0 = ⟨g, 0, none⟩ := rfl
        have e1 : (⟨g, 0, none⟩ : Addr).add 1 = ⟨g, 1, none⟩ := rfl
        have e2 : (⟨g, 0, none⟩ : Addr).add 2 = ⟨g, 2, none⟩ := rfl
        rw [e0] at hc0
        rw [e1] at hc1
        rw [e2] at hc2
        have HP := Lib.hid hp
        have SA := Lib.hid sA
        have SB := Lib.hid sB
        have SC := Lib.hid sC
        have C1 := Lib.hid hc1
        have C2 := Lib.hid hc2
        rw [hp] at hcn
        clear e0 e1 e2 hcl hrow hp sA sB sC hcn hc1 hc2 HROW
        have HRS := Lib.hid (show wr.heap[w.heap.size]? = _ from HRES.out)
        go_wp2_with fail
        refine (part_sum A (by have := SA.out; have := HSZ.out; omega) _).mono ?_
        rintro e w1 ⟨⟨n1, k1, hn, rfl, hp1⟩, hb_⟩
        have HN1 := Lib.hid hn
        have HP1 := Lib.hid hp1
        have hb9 := HB.out.trans (hb_.mono HB.out.size)
        have hr9 := (hb_.block _ (block_lt HRES.out)).trans HRES.out
        have HRES := Lib.hid hr9
        have HB := Lib.hid hb9
        have hc1 := (hb_.cell (p := ⟨g, 1, none⟩) (cellLt C1.out)).trans C1.out
        have hc2 := (hb_.cell (p := ⟨g, 2, none⟩) (cellLt C2.out)).trans C2.out
        have C2 := Lib.hid hc2
        clear hn hp1 hb_ hb9 hr9 hc0 hc2 o0 o1 o2 of
        go_wp2_with fail
        refine (part_sum B (by have := SB.out; have := HSZ.out; omega) _).mono ?_
        rintro e w2 ⟨⟨n2, k2, hn, rfl, hp2⟩, hb_⟩
        have HN2 := Lib.hid hn
        have HP2 := Lib.hid hp2
        have hb9 := HB.out.trans (hb_.mono HB.out.size)
        have hr9 := (hb_.block _ (block_lt HRES.out)).trans HRES.out
        have HRES := Lib.hid hr9
        have HB := Lib.hid hb9
        have hc2 := (hb_.cell (p := ⟨g, 2, none⟩) (cellLt C2.out)).trans C2.out
        clear hn hp2 hb_ hb9 hr9 hc1
        go_wp2_with fail
        refine (part_sum C (by have := SC.out; have := HSZ.out; omega) _).mono ?_
        rintro e w3 ⟨⟨n3, k3, hn, rfl, hp3⟩, hb_⟩
        have HN3 := Lib.hid hn
        have HP3 := Lib.hid hp3
        have hb9 := HB.out.trans (hb_.mono HB.out.size)
        have hr9 := (hb_.block _ (block_lt HRES.out)).trans HRES.out
        have HRES := Lib.hid hr9
        have HB := Lib.hid hb9
        clear hn hp3 hb_ hb9 hr9 hc2
        have hrp := read_parts HP.out HP1.out HP2.out HP3.out
        have wz := HRES.out
        have o0 := cell_of_block (k := 0) wz rfl
        have o1 := cell_of_block (k := 1) wz rfl
        have o2 := cell_of_block (k := 2) wz rfl
        have of := free_of_block wz
        clear wz
        by_cases hall : (k1 = true ∧ k2 = true ∧ k3 = true) ∧ n2 ≤ 8
        · obtain ⟨⟨rfl, rfl, rfl⟩, h8⟩ := hall
          have g8 : decide ((8 : Int) < (n2 : Int)) = false := by simp; omega
          have u2 : IntKind.i64.wrap (n2 : Int) = (n2 : Int) := by rw [IntKind.wrap_i64]; omega
          have hfit : (IdT.mk n1 n2 n3).Fits := by
            have h1 := HN1.out
            have h3 := HN3.out
            unfold IdT.Fits
            dsimp only
            omega
          have HF := Lib.hid hfit
          have HI := Lib.hid (fun i hi hs => (hrp i hi hs).2.1)
          clear hrp h8 hfit o0 o1 o2 of
          repeat ((fail_if_success (with_reducible refine stop_at (id := 18) ?_)); (first | go_values | go_skip | go_guarded | go_step | go_upon | go_back | (simp only [Int.not_lt, Int.not_le] at *; go_simp) | (go_values <;> (try go_simp)) | (go_ite <;> go_prune <;> (try go_simp)) | (split <;> (first | (rename_i hx; exact (hx _ rfl).elim) | go_prune))))
          have GZ := Lib.hid (show w.heap.size ≤ (w3.alloc (.cells #[.int .u64 n1, .int .i64 n2, .int .u64 n3] 27)).heap.size by have := HB.out.size; simp; omega)
          have GB := Lib.hid (HB.out.alloc HB.out.size (.cells #[.int .u64 n1, .int .i64 n2, .int .u64 n3] 27))
          have G2 := Lib.hid (show (w3.alloc (.cells #[.int .u64 n1, .int .i64 n2, .int .u64 n3] 27)).heap[w.heap.size]? = some (.cells #[.int .u64 0, .int .i64 0, .int .u64 0] 27 (0, 0)) from heap_alloc_keeps HRES.out _)
          have G13 := Lib.hid (show (w3.alloc (.cells #[.int .u64 n1, .int .i64 n2, .int .u64 n3] 27)).heap[w3.heap.size]? = some (.cells #[.int .u64 n1, .int .i64 n2, .int .u64 n3] 27 (0, 0)) from newBlock _ _ _ rfl)
          clear g8 u2
          generalize (w3.alloc (.cells #[.int .u64 n1, .int .i64 n2, .int .u64 n3] 27)) = V at *
          cases hrt : idOk ⟨n1, n2, n3⟩
          · have HRT := Lib.hid hrt
            have HN := Lib.hid (show IsRead s none from fun i hi hs => by rw [HI.out i hi hs, hrt] at hi; cases hi)
            clear hrt
            refine (wpIn_wide (n := 0)).1 ?_
            apply wp_region_vals 10 (Rl := [(eqv _), (eqv _), (eqv _), (eqv _), (fun v_ _ => v_ = (undef : Value)), (fun v_ _ => v_ = (undef : Value)), (fun v_ _ => v_ = (undef : Value)), (fun v_ _ => v_ = (undef : Value)), (eqv _), (fun v_ w_ => w_.heap[w.heap.size]? = some (.cells #[.int .u64 n1, .int .i64 n2, .int .u64 n3] 27 (0, 0)))]) (C := (fun x y => FillC w.heap.size (.cells #[.int .u64 0, .int .i64 0, .int .u64 0] 27 (0, 0)) (.cells #[.int .u64 n1, .int .i64 n2, .int .u64 n3] 27 (0, 0)) x y))
            case hm => kernel_rfl
            case hk => rfl
            case hCr => exact (fun x => FillC.refl _ _ _ x)
            case hCt => intro _ _ _; exact (fun h k => FillC.trans h k)
            case hst => exact ⟨fun _ _ _ _ h => h, fun _ _ _ _ h => h, fun _ _ _ _ h => h, fun _ _ _ _ h => h, fun _ _ _ _ h => h, fun _ _ _ _ h => h, fun _ _ _ _ h => h, fun _ _ _ _ h => h, fun _ _ _ _ h => h, fun _ _ _ hC h => FillC.filled hC h, trivial⟩
            case hfo => kernel_rfl
            case ht => kernel_rfl
            case hC0 => exact (FillC.grow (grows_drew _) GZ.out)
            case hsteps =>
              refine ⟨?_, ?_, ?_, ?_, ?_, ?_, ?_, ?_, ?_, ?_, trivial⟩
              · -- 0
                intro a' w' hA hC hD
                have s13 : a'.tmps[13]? = some _ := (hA.at 13 (by kernel_rfl)).trans rfl
                have hi := FillC.filled hC G13.out; have d0 := cell_of_block (k := 0) (v := .int .u64 n1) hi rfl; have d1 := cell_of_block (k := 1) (v := .int .i64 n2) hi rfl; have d2 := cell_of_block (k := 2) (v := .int .u64 n3) hi rfl; clear hi
                clear hA hD
                refine stepOk_plain rfl ?_
                intro K hK
                gi_wp2
                exact hK _ _ rfl ((fun x => FillC.refl _ _ _ x) _)
              · -- 1
                intro a' w' hA hC hD
                have s13 : a'.tmps[13]? = some _ := (hA.at 13 (by kernel_rfl)).trans rfl
                have hi := FillC.filled hC G13.out; have d0 := cell_of_block (k := 0) (v := .int .u64 n1) hi rfl; have d1 := cell_of_block (k := 1) (v := .int .i64 n2) hi rfl; have d2 := cell_of_block (k := 2) (v := .int .u64 n3) hi rfl; clear hi
                clear hA hD
                refine stepOk_plain rfl ?_
                intro K hK
                gi_wp2
                exact hK _ _ rfl ((fun x => FillC.refl _ _ _ x) _)
              · -- 2
                intro a' w' hA hC hD
                obtain ⟨u86, s86, r86⟩ := hD ⟨1, .data⟩ (by simp) rfl _ rfl
                replace r86 : u86 = _ := r86
                subst r86
                have hz_ := Nat.le_trans GZ.out hC.size
                clear hA hD
                refine stepOk_plain rfl ?_
                intro K hK
                gi_wp2_with fail; refine (callsIn_wide.2 (refIdRight_any ⟨n1, n2, n3⟩ _)).mono ?_; rintro e w5 ⟨rfl, hb⟩; rw [HRT.out]; exact hK _ _ rfl (FillC.grow hb hz_)
              · -- 3
                intro a' w' hA hC hD
                obtain ⟨u87, s87, r87⟩ := hD ⟨2, .data⟩ (by simp) rfl _ rfl
                replace r87 : u87 = _ := r87
                subst r87
                clear hA hD
                refine stepOk_plain rfl ?_
                intro K hK
                gi_wp2
                exact hK _ _ rfl ((fun x => FillC.refl _ _ _ x) _)
              · -- 4
                intro a' w' hA hC hD
                have s13 : a'.tmps[13]? = some _ := (hA.at 13 (by kernel_rfl)).trans rfl
                obtain ⟨u88, s88, r88⟩ := hD ⟨3, .guard⟩ (by simp) rfl _ rfl
                replace r88 : u88 = _ := r88
                subst r88
                clear hA hD
                exact stepOk_skip rfl rfl s88 rfl
              · -- 5
                intro a' w' hA hC hD
                obtain ⟨u89, s89, r89⟩ := hD ⟨4, .data⟩ (by simp) rfl _ rfl
                replace r89 : u89 = undef := r89
                subst r89
                obtain ⟨u88, s88, r88⟩ := hD ⟨3, .chain⟩ (by simp) rfl _ rfl
                replace r88 : u88 = _ := r88
                subst r88
                clear hA hD
                exact stepOk_skip rfl rfl s88 rfl
              · -- 6
                intro a' w' hA hC hD
                have s0 : a'.tmps[0]? = some _ := (hA.at 0 (by kernel_rfl)).trans rfl
                obtain ⟨u88, s88, r88⟩ := hD ⟨3, .guard⟩ (by simp) rfl _ rfl
                replace r88 : u88 = _ := r88
                subst r88
                clear hA hD
                exact stepOk_skip rfl rfl s88 rfl
              · -- 7
                intro a' w' hA hC hD
                obtain ⟨u90, s90, r90⟩ := hD ⟨5, .data⟩ (by simp) rfl _ rfl
                replace r90 : u90 = undef := r90
                subst r90
                obtain ⟨u91, s91, r91⟩ := hD ⟨6, .data⟩ (by simp) rfl _ rfl
                replace r91 : u91 = undef := r91
                subst r91
                obtain ⟨u88, s88, r88⟩ := hD ⟨3, .guard⟩ (by simp) rfl _ rfl
                replace r88 : u88 = _ := r88
                subst r88
                clear hA hD
                exact stepOk_skip rfl rfl s88 rfl
              · -- 8
                intro a' w' hA hC hD
                obtain ⟨u88, s88, r88⟩ := hD ⟨3, .data⟩ (by simp) rfl _ rfl
                replace r88 : u88 = _ := r88
                subst r88
                obtain ⟨u92, s92, r92⟩ := hD ⟨7, .data⟩ (by simp) rfl _ rfl
                replace r92 : u92 = undef := r92
                subst r92
                clear hA hD
                refine stepOk_plain rfl ?_
                intro K hK
                gi_wp2
                exact hK _ _ rfl ((fun x => FillC.refl _ _ _ x) _)
              · -- 9
                intro a' w' hA hC hD
                have s2 : a'.tmps[2]? = some _ := (hA.at 2 (by kernel_rfl)).trans rfl
                obtain ⟨u85, s85, r85⟩ := hD ⟨0, .data⟩ (by simp) rfl _ rfl
                replace r85 : u85 = _ := r85
                subst r85
                have he := FillC.either hC (.inl G2.out); have HE := Lib.hid he; obtain ⟨y0, y1, y2, hy⟩ := either3 he; have d0 := cell_of_block (k := 0) (v := y0) hy rfl; have d1 := cell_of_block (k := 1) (v := y1) hy rfl; have d2 := cell_of_block (k := 2) (v := y2) hy rfl; have fr := free_of_block hy; clear he hy
                clear hA hD
                refine stepOk_plain rfl ?_
                intro K hK
                gi_wp2
                exact hK undef _ (fill3 (n₀ := w.heap.size) (by omega) HE.out).2 (fill3 (n₀ := w.heap.size) (by omega) HE.out).1
            case hend =>
              intro w5 hC
              simp only [EndFrom, eqv, forall_eq, Act.put, List.length_cons, List.length_nil, List.drop_succ_cons, List.drop_zero, Nat.reduceAdd, List.setIfInBounds_toArray, List.set_cons_succ, List.set_cons_zero]
              intro v9 h9
              have HB9 := Lib.hid (GB.out.trans ⟨hC.1.os, hC.1.tape, hC.1.output, hC.1.size, hC.1.block⟩)
              have d0 := cell_of_block (k := 0) (v := .int .u64 n1) h9 rfl
              have d1 := cell_of_block (k := 1) (v := .int .i64 n2) h9 rfl
              have d2 := cell_of_block (k := 2) (v := .int .u64 n3) h9 rfl
              clear hC h9
              gi_wp2
              go_wp2_with fail
              refine bodyPost_ret (v := .tuple #[(IdT.mk n1 n2 n3).val, .bool false]) (by simp [results, Tryd.results13, go_sem, d0, d1, d2, IdT.val]) rfl ⟨⟨⟨n1, n2, n3⟩, none, HN.out, rfl, fun j h => by first | (cases h; done) | (cases h; rfl)⟩, HB9.out⟩
          · have HRT := Lib.hid hrt
            obtain ⟨T, hT1, hT2⟩ : ∃ T : ByteArray, str (idText ⟨n1, n2, n3⟩) = .string T ∧ T = ⟨(idText ⟨n1, n2, n3⟩).toArray⟩ := ⟨_, rfl, rfl⟩
            have HT1 := Lib.hid hT1
            have HT2 := Lib.hid hT2
            have hbq := Lib.bytes_beq_iff T s
            cases e1 : (T.toList == s.toList)
            · rw [e1] at hbq
              have HN := Lib.hid (show IsRead s none from fun i hi hs => by have e := HI.out i hi hs; subst e; have := hbq.2 (hT2.trans hs.symm); simp at this)
              clear hbq hT1 hT2 hrt
              refine (wpIn_wide (n := 0)).1 ?_
              apply wp_region_vals 10 (Rl := [(eqv _), (eqv _), (eqv _), (eqv _), (eqv _), (eqv _), (eqv _), (eqv _), (eqv _), (fun v_ w_ => w_.heap[w.heap.size]? = some (.cells #[.int .u64 n1, .int .i64 n2, .int .u64 n3] 27 (0, 0)))]) (C := (fun x y => FillC w.heap.size (.cells #[.int .u64 0, .int .i64 0, .int .u64 0] 27 (0, 0)) (.cells #[.int .u64 n1, .int .i64 n2, .int .u64 n3] 27 (0, 0)) x y))
              case hm => kernel_rfl
              case hk => rfl
              case hCr => exact (fun x => FillC.refl _ _ _ x)
              case hCt => intro _ _ _; exact (fun h k => FillC.trans h k)
              case hst => exact ⟨fun _ _ _ _ h => h, fun _ _ _ _ h => h, fun _ _ _ _ h => h, fun _ _ _ _ h => h, fun _ _ _ _ h => h, fun _ _ _ _ h => h, fun _ _ _ _ h => h, fun _ _ _ _ h => h, fun _ _ _ _ h => h, fun _ _ _ hC h => FillC.filled hC h, trivial⟩
              case hfo => kernel_rfl
              case ht => kernel_rfl
              case hC0 => exact (FillC.grow (grows_drew _) GZ.out)
              case hsteps =>
                refine ⟨?_, ?_, ?_, ?_, ?_, ?_, ?_, ?_, ?_, ?_, trivial⟩
                · -- 0
                  intro a' w' hA hC hD
                  have s13 : a'.tmps[13]? = some _ := (hA.at 13 (by kernel_rfl)).trans rfl
                  have hi := FillC.filled hC G13.out; have d0 := cell_of_block (k := 0) (v := .int .u64 n1) hi rfl; have d1 := cell_of_block (k := 1) (v := .int .i64 n2) hi rfl; have d2 := cell_of_block (k := 2) (v := .int .u64 n3) hi rfl; clear hi
                  clear hA hD
                  refine stepOk_plain rfl ?_
                  intro K hK
                  gi_wp2
                  exact hK _ _ rfl ((fun x => FillC.refl _ _ _ x) _)
                · -- 1
                  intro a' w' hA hC hD
                  have s13 : a'.tmps[13]? = some _ := (hA.at 13 (by kernel_rfl)).trans rfl
                  have hi := FillC.filled hC G13.out; have d0 := cell_of_block (k := 0) (v := .int .u64 n1) hi rfl; have d1 := cell_of_block (k := 1) (v := .int .i64 n2) hi rfl; have d2 := cell_of_block (k := 2) (v := .int .u64 n3) hi rfl; clear hi
                  clear hA hD
                  refine stepOk_plain rfl ?_
                  intro K hK
                  gi_wp2
                  exact hK _ _ rfl ((fun x => FillC.refl _ _ _ x) _)
                · -- 2
                  intro a' w' hA hC hD
                  obtain ⟨u86, s86, r86⟩ := hD ⟨1, .data⟩ (by simp) rfl _ rfl
                  replace r86 : u86 = _ := r86
                  subst r86
                  have hz_ := Nat.le_trans GZ.out hC.size
                  clear hA hD
                  refine stepOk_plain rfl ?_
                  intro K hK
                  gi_wp2_with fail; refine (callsIn_wide.2 (refIdRight_any ⟨n1, n2, n3⟩ _)).mono ?_; rintro e w5 ⟨rfl, hb⟩; rw [HRT.out]; exact hK _ _ rfl (FillC.grow hb hz_)
                · -- 3
                  intro a' w' hA hC hD
                  obtain ⟨u87, s87, r87⟩ := hD ⟨2, .data⟩ (by simp) rfl _ rfl
                  replace r87 : u87 = _ := r87
                  subst r87
                  clear hA hD
                  refine stepOk_plain rfl ?_
                  intro K hK
                  gi_wp2
                  exact hK _ _ rfl ((fun x => FillC.refl _ _ _ x) _)
                · -- 4
                  intro a' w' hA hC hD
                  have s13 : a'.tmps[13]? = some _ := (hA.at 13 (by kernel_rfl)).trans rfl
                  obtain ⟨u88, s88, r88⟩ := hD ⟨3, .guard⟩ (by simp) rfl _ rfl
                  replace r88 : u88 = _ := r88
                  subst r88
                  have hi := FillC.filled hC G13.out; have d0 := cell_of_block (k := 0) (v := .int .u64 n1) hi rfl; have d1 := cell_of_block (k := 1) (v := .int .i64 n2) hi rfl; have d2 := cell_of_block (k := 2) (v := .int .u64 n3) hi rfl; clear hi
                  clear hA hD
                  refine stepOk_want rfl rfl s88 ?_
                  intro K hK
                  gi_wp2
                  exact hK _ _ rfl ((fun x => FillC.refl _ _ _ x) _)
                · -- 5
                  intro a' w' hA hC hD
                  obtain ⟨u89, s89, r89⟩ := hD ⟨4, .data⟩ (by simp) rfl _ rfl
                  replace r89 : u89 = _ := r89
                  subst r89
                  obtain ⟨u88, s88, r88⟩ := hD ⟨3, .chain⟩ (by simp) rfl _ rfl
                  replace r88 : u88 = _ := r88
                  subst r88
                  have hz_ := Nat.le_trans GZ.out hC.size
                  clear hA hD
                  refine stepOk_want rfl rfl s88 ?_
                  intro K hK
                  gi_wp2_with fail; refine (callsIn_wide.2 (refText_any ⟨n1, n2, n3⟩ HF.out _)).mono ?_; rintro e w5 ⟨rfl, hb⟩; rw [HT1.out]; exact hK _ _ rfl (FillC.grow hb hz_)
                · -- 6
                  intro a' w' hA hC hD
                  have s0 : a'.tmps[0]? = some _ := (hA.at 0 (by kernel_rfl)).trans rfl
                  obtain ⟨u88, s88, r88⟩ := hD ⟨3, .guard⟩ (by simp) rfl _ rfl
                  replace r88 : u88 = _ := r88
                  subst r88
                  clear hA hD
                  refine stepOk_want rfl rfl s88 ?_
                  intro K hK
                  gi_wp2
                  exact hK _ _ rfl ((fun x => FillC.refl _ _ _ x) _)
                · -- 7
                  intro a' w' hA hC hD
                  obtain ⟨u90, s90, r90⟩ := hD ⟨5, .data⟩ (by simp) rfl _ rfl
                  replace r90 : u90 = _ := r90
                  subst r90
                  obtain ⟨u91, s91, r91⟩ := hD ⟨6, .data⟩ (by simp) rfl _ rfl
                  replace r91 : u91 = _ := r91
                  subst r91
                  obtain ⟨u88, s88, r88⟩ := hD ⟨3, .guard⟩ (by simp) rfl _ rfl
                  replace r88 : u88 = _ := r88
                  subst r88
                  clear hA hD
                  refine stepOk_want rfl rfl s88 ?_
                  intro K hK
                  gi_wp2
                  exact hK _ _ rfl ((fun x => FillC.refl _ _ _ x) _)
                · -- 8
                  intro a' w' hA hC hD
                  obtain ⟨u88, s88, r88⟩ := hD ⟨3, .data⟩ (by simp) rfl _ rfl
                  replace r88 : u88 = _ := r88
                  subst r88
                  obtain ⟨u92, s92, r92⟩ := hD ⟨7, .data⟩ (by simp) rfl _ rfl
                  replace r92 : u92 = _ := r92
                  subst r92
                  clear hA hD
                  refine stepOk_plain rfl ?_
                  intro K hK
                  gi_wp2
                  exact hK _ _ rfl ((fun x => FillC.refl _ _ _ x) _)
                · -- 9
                  intro a' w' hA hC hD
                  have s2 : a'.tmps[2]? = some _ := (hA.at 2 (by kernel_rfl)).trans rfl
                  obtain ⟨u85, s85, r85⟩ := hD ⟨0, .data⟩ (by simp) rfl _ rfl
                  replace r85 : u85 = _ := r85
                  subst r85
                  have he := FillC.either hC (.inl G2.out); have HE := Lib.hid he; obtain ⟨y0, y1, y2, hy⟩ := either3 he; have d0 := cell_of_block (k := 0) (v := y0) hy rfl; have d1 := cell_of_block (k := 1) (v := y1) hy rfl; have d2 := cell_of_block (k := 2) (v := y2) hy rfl; have fr := free_of_block hy; clear he hy
                  clear hA hD
                  refine stepOk_plain rfl ?_
                  intro K hK
                  gi_wp2
                  exact hK undef _ (fill3 (n₀ := w.heap.size) (by omega) HE.out).2 (fill3 (n₀ := w.heap.size) (by omega) HE.out).1
              case hend =>
                intro w5 hC
                simp only [EndFrom, eqv, forall_eq, Act.put, List.length_cons, List.length_nil, List.drop_succ_cons, List.drop_zero, Nat.reduceAdd, List.setIfInBounds_toArray, List.set_cons_succ, List.set_cons_zero]
                intro v9 h9
                have HB9 := Lib.hid (GB.out.trans ⟨hC.1.os, hC.1.tape, hC.1.output, hC.1.size, hC.1.block⟩)
                have d0 := cell_of_block (k := 0) (v := .int .u64 n1) h9 rfl
                have d1 := cell_of_block (k := 1) (v := .int .i64 n2) h9 rfl
                have d2 := cell_of_block (k := 2) (v := .int .u64 n3) h9 rfl
                clear hC h9
                gi_wp2
                go_wp2_with fail
                refine bodyPost_ret (v := .tuple #[(IdT.mk n1 n2 n3).val, .bool false]) (by simp [results, Tryd.results13, go_sem, d0, d1, d2, IdT.val]) rfl ⟨⟨⟨n1, n2, n3⟩, none, HN.out, rfl, fun j h => by first | (cases h; done) | (cases h; rfl)⟩, HB9.out⟩
            · have HN := Lib.hid (show IsRead s (some ⟨n1, n2, n3⟩) from ⟨hrt, (hbq.1 e1).symm.trans hT2⟩)
              clear hbq hT1 hT2 hrt
              refine (wpIn_wide (n := 0)).1 ?_
              apply wp_region_vals 10 (Rl := [(eqv _), (eqv _), (eqv _), (eqv _), (eqv _), (eqv _), (eqv _), (eqv _), (eqv _), (fun v_ w_ => w_.heap[w.heap.size]? = some (.cells #[.int .u64 n1, .int .i64 n2, .int .u64 n3] 27 (0, 0)))]) (C := (fun x y => FillC w.heap.size (.cells #[.int .u64 0, .int .i64 0, .int .u64 0] 27 (0, 0)) (.cells #[.int .u64 n1, .int .i64 n2, .int .u64 n3] 27 (0, 0)) x y))
              case hm => kernel_rfl
              case hk => rfl
              case hCr => exact (fun x => FillC.refl _ _ _ x)
              case hCt => intro _ _ _; exact (fun h k => FillC.trans h k)
              case hst => exact ⟨fun _ _ _ _ h => h, fun _ _ _ _ h => h, fun _ _ _ _ h => h, fun _ _ _ _ h => h, fun _ _ _ _ h => h, fun _ _ _ _ h => h, fun _ _ _ _ h => h, fun _ _ _ _ h => h, fun _ _ _ _ h => h, fun _ _ _ hC h => FillC.filled hC h, trivial⟩
              case hfo => kernel_rfl
              case ht => kernel_rfl
              case hC0 => exact (FillC.grow (grows_drew _) GZ.out)
              case hsteps =>
                refine ⟨?_, ?_, ?_, ?_, ?_, ?_, ?_, ?_, ?_, ?_, trivial⟩
                · -- 0
                  intro a' w' hA hC hD
                  have s13 : a'.tmps[13]? = some _ := (hA.at 13 (by kernel_rfl)).trans rfl
                  have hi := FillC.filled hC G13.out; have d0 := cell_of_block (k := 0) (v := .int .u64 n1) hi rfl; have d1 := cell_of_block (k := 1) (v := .int .i64 n2) hi rfl; have d2 := cell_of_block (k := 2) (v := .int .u64 n3) hi rfl; clear hi
                  clear hA hD
                  refine stepOk_plain rfl ?_
                  intro K hK
                  gi_wp2
                  exact hK _ _ rfl ((fun x => FillC.refl _ _ _ x) _)
                · -- 1
                  intro a' w' hA hC hD
                  have s13 : a'.tmps[13]? = some _ := (hA.at 13 (by kernel_rfl)).trans rfl
                  have hi := FillC.filled hC G13.out; have d0 := cell_of_block (k := 0) (v := .int .u64 n1) hi rfl; have d1 := cell_of_block (k := 1) (v := .int .i64 n2) hi rfl; have d2 := cell_of_block (k := 2) (v := .int .u64 n3) hi rfl; clear hi
                  clear hA hD
                  refine stepOk_plain rfl ?_
                  intro K hK
                  gi_wp2
                  exact hK _ _ rfl ((fun x => FillC.refl _ _ _ x) _)
                · -- 2
                  intro a' w' hA hC hD
                  obtain ⟨u86, s86, r86⟩ := hD ⟨1, .data⟩ (by simp) rfl _ rfl
                  replace r86 : u86 = _ := r86
                  subst r86
                  have hz_ := Nat.le_trans GZ.out hC.size
                  clear hA hD
                  refine stepOk_plain rfl ?_
                  intro K hK
                  gi_wp2_with fail; refine (callsIn_wide.2 (refIdRight_any ⟨n1, n2, n3⟩ _)).mono ?_; rintro e w5 ⟨rfl, hb⟩; rw [HRT.out]; exact hK _ _ rfl (FillC.grow hb hz_)
                · -- 3
                  intro a' w' hA hC hD
                  obtain ⟨u87, s87, r87⟩ := hD ⟨2, .data⟩ (by simp) rfl _ rfl
                  replace r87 : u87 = _ := r87
                  subst r87
                  clear hA hD
                  refine stepOk_plain rfl ?_
                  intro K hK
                  gi_wp2
                  exact hK _ _ rfl ((fun x => FillC.refl _ _ _ x) _)
                · -- 4
                  intro a' w' hA hC hD
                  have s13 : a'.tmps[13]? = some _ := (hA.at 13 (by kernel_rfl)).trans rfl
                  obtain ⟨u88, s88, r88⟩ := hD ⟨3, .guard⟩ (by simp) rfl _ rfl
                  replace r88 : u88 = _ := r88
                  subst r88
                  have hi := FillC.filled hC G13.out; have d0 := cell_of_block (k := 0) (v := .int .u64 n1) hi rfl; have d1 := cell_of_block (k := 1) (v := .int .i64 n2) hi rfl; have d2 := cell_of_block (k := 2) (v := .int .u64 n3) hi rfl; clear hi
                  clear hA hD
                  refine stepOk_want rfl rfl s88 ?_
                  intro K hK
                  gi_wp2
                  exact hK _ _ rfl ((fun x => FillC.refl _ _ _ x) _)
                · -- 5
                  intro a' w' hA hC hD
                  obtain ⟨u89, s89, r89⟩ := hD ⟨4, .data⟩ (by simp) rfl _ rfl
                  replace r89 : u89 = _ := r89
                  subst r89
                  obtain ⟨u88, s88, r88⟩ := hD ⟨3, .chain⟩ (by simp) rfl _ rfl
                  replace r88 : u88 = _ := r88
                  subst r88
                  have hz_ := Nat.le_trans GZ.out hC.size
                  clear hA hD
                  refine stepOk_want rfl rfl s88 ?_
                  intro K hK
                  gi_wp2_with fail; refine (callsIn_wide.2 (refText_any ⟨n1, n2, n3⟩ HF.out _)).mono ?_; rintro e w5 ⟨rfl, hb⟩; rw [HT1.out]; exact hK _ _ rfl (FillC.grow hb hz_)
                · -- 6
                  intro a' w' hA hC hD
                  have s0 : a'.tmps[0]? = some _ := (hA.at 0 (by kernel_rfl)).trans rfl
                  obtain ⟨u88, s88, r88⟩ := hD ⟨3, .guard⟩ (by simp) rfl _ rfl
                  replace r88 : u88 = _ := r88
                  subst r88
                  clear hA hD
                  refine stepOk_want rfl rfl s88 ?_
                  intro K hK
                  gi_wp2
                  exact hK _ _ rfl ((fun x => FillC.refl _ _ _ x) _)
                · -- 7
                  intro a' w' hA hC hD
                  obtain ⟨u90, s90, r90⟩ := hD ⟨5, .data⟩ (by simp) rfl _ rfl
                  replace r90 : u90 = _ := r90
                  subst r90
                  obtain ⟨u91, s91, r91⟩ := hD ⟨6, .data⟩ (by simp) rfl _ rfl
                  replace r91 : u91 = _ := r91
                  subst r91
                  obtain ⟨u88, s88, r88⟩ := hD ⟨3, .guard⟩ (by simp) rfl _ rfl
                  replace r88 : u88 = _ := r88
                  subst r88
                  clear hA hD
                  refine stepOk_want rfl rfl s88 ?_
                  intro K hK
                  gi_wp2
                  exact hK _ _ rfl ((fun x => FillC.refl _ _ _ x) _)
                · -- 8
                  intro a' w' hA hC hD
                  obtain ⟨u88, s88, r88⟩ := hD ⟨3, .data⟩ (by simp) rfl _ rfl
                  replace r88 : u88 = _ := r88
                  subst r88
                  obtain ⟨u92, s92, r92⟩ := hD ⟨7, .data⟩ (by simp) rfl _ rfl
                  replace r92 : u92 = _ := r92
                  subst r92
                  clear hA hD
                  refine stepOk_plain rfl ?_
                  intro K hK
                  gi_wp2
                  exact hK _ _ rfl ((fun x => FillC.refl _ _ _ x) _)
                · -- 9
                  intro a' w' hA hC hD
                  have s2 : a'.tmps[2]? = some _ := (hA.at 2 (by kernel_rfl)).trans rfl
                  obtain ⟨u85, s85, r85⟩ := hD ⟨0, .data⟩ (by simp) rfl _ rfl
                  replace r85 : u85 = _ := r85
                  subst r85
                  have he := FillC.either hC (.inl G2.out); have HE := Lib.hid he; obtain ⟨y0, y1, y2, hy⟩ := either3 he; have d0 := cell_of_block (k := 0) (v := y0) hy rfl; have d1 := cell_of_block (k := 1) (v := y1) hy rfl; have d2 := cell_of_block (k := 2) (v := y2) hy rfl; have fr := free_of_block hy; clear he hy
                  clear hA hD
                  refine stepOk_plain rfl ?_
                  intro K hK
                  gi_wp2
                  exact hK undef _ (fill3 (n₀ := w.heap.size) (by omega) HE.out).2 (fill3 (n₀ := w.heap.size) (by omega) HE.out).1
              case hend =>
                intro w5 hC
                simp only [EndFrom, eqv, forall_eq, Act.put, List.length_cons, List.length_nil, List.drop_succ_cons, List.drop_zero, Nat.reduceAdd, List.setIfInBounds_toArray, List.set_cons_succ, List.set_cons_zero]
                intro v9 h9
                have HB9 := Lib.hid (GB.out.trans ⟨hC.1.os, hC.1.tape, hC.1.output, hC.1.size, hC.1.block⟩)
                have d0 := cell_of_block (k := 0) (v := .int .u64 n1) h9 rfl
                have d1 := cell_of_block (k := 1) (v := .int .i64 n2) h9 rfl
                have d2 := cell_of_block (k := 2) (v := .int .u64 n3) h9 rfl
                clear hC h9
                gi_wp2
                go_wp2_with fail
                refine bodyPost_ret (v := .tuple #[(IdT.mk n1 n2 n3).val, .bool true]) (by simp [results, Tryd.results13, go_sem, d0, d1, d2, IdT.val]) rfl ⟨⟨⟨n1, n2, n3⟩, some ⟨n1, n2, n3⟩, HN.out, rfl, fun j h => by first | (cases h; done) | (cases h; rfl)⟩, HB9.out⟩
        · have HN := Lib.hid (show IsRead s none from fun i hi hs => hall ⟨(hrp i hi hs).1, (hrp i hi hs).2.2⟩)
          clear hrp
          cases k1
          · clear hall
            go_wp2_with fail
            refine bodyPost_ret (v := .tuple #[zeroId.val, .bool false]) (by simp [results, Tryd.results13, go_sem, o0, o1, o2, of, zeroId, IdT.val]) rfl ⟨⟨zeroId, none, HN.out, rfl, fun j h => by cases h⟩, by have OB := HB.out; (repeat (first | exact Below.refl _ _ | assumption | refine Below.alloc ?_ (by first | omega | (simp; done) | (simp; omega)) _ | refine Below.setCell ?_ (by first | omega | (simp; done) | (simp; omega)) _ | refine Below.drew ?_))⟩
          · cases k2
            · clear hall
              go_wp2_with fail
              refine bodyPost_ret (v := .tuple #[zeroId.val, .bool false]) (by simp [results, Tryd.results13, go_sem, o0, o1, o2, of, zeroId, IdT.val]) rfl ⟨⟨zeroId, none, HN.out, rfl, fun j h => by cases h⟩, by have OB := HB.out; (repeat (first | exact Below.refl _ _ | assumption | refine Below.alloc ?_ (by first | omega | (simp; done) | (simp; omega)) _ | refine Below.setCell ?_ (by first | omega | (simp; done) | (simp; omega)) _ | refine Below.drew ?_))⟩
            · cases k3
              · clear hall
                go_wp2_with fail
                refine bodyPost_ret (v := .tuple #[zeroId.val, .bool false]) (by simp [results, Tryd.results13, go_sem, o0, o1, o2, of, zeroId, IdT.val]) rfl ⟨⟨zeroId, none, HN.out, rfl, fun j h => by cases h⟩, by have OB := HB.out; (repeat (first | exact Below.refl _ _ | assumption | refine Below.alloc ?_ (by first | omega | (simp; done) | (simp; omega)) _ | refine Below.setCell ?_ (by first | omega | (simp; done) | (simp; omega)) _ | refine Below.drew ?_))⟩
              · have g8 : decide ((8 : Int) < (n2 : Int)) = true := by simp at hall; simp; omega
                clear hall
                go_wp2_with fail
                refine bodyPost_ret (v := .tuple #[zeroId.val, .bool false]) (by simp [results, Tryd.results13, go_sem, o0, o1, o2, of, zeroId, IdT.val]) rfl ⟨⟨zeroId, none, HN.out, rfl, fun j h => by cases h⟩, by have OB := HB.out; (repeat (first | exact Below.refl _ _ | assumption | refine Below.alloc ?_ (by first | omega | (simp; done) | (simp; omega)) _ | refine Below.setCell ?_ (by first | omega | (simp; done) | (simp; omega)) _ | refine Below.drew ?_))⟩
      · have HN := Lib.hid (read_three h3)
        rcases ownsRow_strings HROW.out with ⟨rfl, hl⟩ | ⟨g, cap, rfl⟩
        · clear h3 hl
          go_wp2_with fail
          refine bodyPost_ret (v := .tuple #[zeroId.val, .bool false]) (by simp [results, Tryd.results13, go_sem, o0, o1, o2, of, zeroId, IdT.val]) rfl ⟨⟨zeroId, none, HN.out, rfl, fun j h => by cases h⟩, by have OB := HB.out; (repeat (first | exact Below.refl _ _ | assumption | refine Below.alloc ?_ (by first | omega | (simp; done) | (simp; omega)) _ | refine Below.setCell ?_ (by first | omega | (simp; done) | (simp; omega)) _ | refine Below.drew ?_))⟩
        · have h3' : (((cuts s (s.size + 1)).1.length : Int) != 3) = true := by simp; omega
          generalize (cuts s (s.size + 1)).1.length = N at *
          clear h3
          go_wp2_with fail
          refine bodyPost_ret (v := .tuple #[zeroId.val, .bool false]) (by simp [results, Tryd.results13, go_sem, o0, o1, o2, of, zeroId, IdT.val]) rfl ⟨⟨zeroId, none, HN.out, rfl, fun j h => by cases h⟩, by have OB := HB.out; (repeat (first | exact Below.refl _ _ | assumption | refine Below.alloc ?_ (by first | omega | (simp; done) | (simp; omega)) _ | refine Below.setCell ?_ (by first | omega | (simp; done) | (simp; omega)) _ | refine Below.drew ?_))⟩
end Go.Proofs.YtppaheekpmgifaaDoor
