/- Package ident: Read. -/
import Derived.Test.YtppaheekpmgifaaDoorIdRb
import Derived.Lib.SlicesS
namespace Go.Proofs.YtppaheekpmgifaaDoor
set_option linter.unusedSimpArgs false
set_option linter.unusedVariables false
open Go.RowKit Go.Shelf Go.Lib

/-- The state of the loop: blocks of the result and of the three numbers, and the iterator. -/
structure RdW (s : ByteArray) (w W : World) (r : Rd) : Prop where
  low : Below w.heap.size w W
  size : W.heap.size = w.heap.size + 2
  res : W.heap[w.heap.size]? = some (.cells #[.int .u64 0, .int .i64 0, .int .u64 0] 27 (0, 0))
  arr : W.heap[w.heap.size + 1]? = some (.cells #[.int .u64 r.n0, .int .u64 r.n1, .int .u64 r.n2] 74 (0, 0))
theorem RdW.cells {s : ByteArray} {w W : World} {r : Rd} (h : RdW s w W r) (pos : Nat) :
    (W.iter s pos).cell? ⟨w.heap.size + 1, 0, none⟩ = some (.int .u64 r.n0) ∧ (W.iter s pos).cell? ⟨w.heap.size + 1, 1, none⟩ = some (.int .u64 r.n1) ∧ (W.iter s pos).cell? ⟨w.heap.size + 1, 2, none⟩ = some (.int .u64 r.n2) := by
  have hb : (W.iter s pos).heap[w.heap.size + 1]? = some (.cells #[.int .u64 r.n0, .int .u64 r.n1, .int .u64 r.n2] 74 (0, 0)) := heap_alloc_keeps h.arr _
  exact ⟨cell_of_block hb rfl, cell_of_block hb rfl, cell_of_block hb rfl⟩
theorem RdW.free {s : ByteArray} {w W : World} {r : Rd} (h : RdW s w W r) (pos k : Nat) : (W.iter s pos).frozen? ⟨w.heap.size + 1, k, none⟩ = false := by
  have hb : (W.iter s pos).heap[w.heap.size + 1]? = some (.cells #[.int .u64 r.n0, .int .u64 r.n1, .int .u64 r.n2] 74 (0, 0)) := heap_alloc_keeps h.arr _
  exact free_of_block hb k
theorem RdW.out {s : ByteArray} {w W : World} {r : Rd} (h : RdW s w W r) (pos : Nat) :
    ((W.iter s pos).cell? ⟨w.heap.size, 0, none⟩ = some (.int .u64 0) ∧ (W.iter s pos).cell? ⟨w.heap.size, 1, none⟩ = some (.int .i64 0) ∧ (W.iter s pos).cell? ⟨w.heap.size, 2, none⟩ = some (.int .u64 0)) ∧ (∀ k, (W.iter s pos).frozen? ⟨w.heap.size, k, none⟩ = false) ∧ Below w.heap.size w (W.iter s pos) := by
  have hb : (W.iter s pos).heap[w.heap.size]? = some (.cells #[.int .u64 0, .int .i64 0, .int .u64 0] 27 (0, 0)) := heap_alloc_keeps h.res _
  exact ⟨⟨cell_of_block hb rfl, cell_of_block hb rfl, cell_of_block hb rfl⟩, fun k => free_of_block hb k, h.low.alloc (by have := h.size; omega) _⟩
theorem RdW.set {s : ByteArray} {w W : World} {r r' : Rd} (h : RdW s w W r) (k : Nat) (v : Value) (hv : (#[.int .u64 r.n0, .int .u64 r.n1, .int .u64 r.n2] : Array Value).setIfInBounds k v = #[.int .u64 r'.n0, .int .u64 r'.n1, .int .u64 r'.n2]) :
    RdW s w (W.setCell ⟨w.heap.size + 1, k, none⟩ v) r' := by
  refine ⟨h.low.setCell (by simp) _, (size_setCell _ _ _).trans h.size, heap_set_other h.res (by omega) v, ?_⟩
  rw [heap_set_same h.arr v, hv]
theorem RdW.pos {s : ByteArray} {w W : World} {r : Rd} (h : RdW s w W r) (p : Nat) : (W.iter s p).iterPos (w.heap.size + 2) = p := by
  rw [← h.size]
  simp
theorem RdW.same {s : ByteArray} {w W : World} {r r' : Rd} (h : RdW s w W r) (h0 : r'.n0 = r.n0) (h1 : r'.n1 = r.n1) (h2 : r'.n2 = r.n2) : RdW s w W r' :=
  ⟨h.low, h.size, h.res, by rw [h0, h1, h2]; exact h.arr⟩

set_option maxRecDepth 100000 in
set_option maxHeartbeats 4000000 in
theorem identRead_any (s : ByteArray) (w : World) (ht : Tab w) : Calls Tryd.prog 12 #[.string s] w fun e w' => (∃ o, IsRead s o ∧ e = .returned (readVal o)) ∧ Below w.heap.size w w' := by
  have HT := Lib.hid ht
  clear ht
  go_enter Tryd.func12, Tryd.ntmps12
  go_wp2_with fail
  go_loopw [5] (fun a wr => ∃ (r : Rd) (pos : Nat) (W : World), wr = W.iter s pos ∧ a = .int .i64 (r.at_ : Int) ∧ RdW s w W r ∧ r.Ok ∧ rd0.run (nats s.data.toList) = r.run ((nats s.data.toList).drop pos)) (fun _ wr => s.size - wr.iterPos (w.heap.size + 2))
  case atStart =>
    refine ⟨rd0, 0, _, rfl, rfl, ⟨?_, by simp, heap_alloc_keeps (newBlock w _ _ rfl) _, newBlock _ _ _ (by simp)⟩, ⟨by decide, by decide, by decide, by decide⟩, rfl⟩
    (repeat (first | exact Below.refl _ _ | assumption | refine Below.alloc ?_ (by first | omega | (simp; done) | (simp; omega)) _ | refine Below.setCell ?_ (by first | omega | (simp; done) | (simp; omega)) _ | refine Below.drew ?_))
  case round =>
    obtain ⟨r, pos, W, rfl, rfl, hW, hok, hrun⟩ := hrel
    by_cases hp : pos < s.size
    · obtain ⟨c, wd, hwd, hcase, hnx⟩ := run_next_byte s pos hp
      have hnx' := fun ty => hnx W ty (w.heap.size + 2) hW.size
      rw [nats_drop s pos hp] at hrun
      have hstep : r.step (byteAt s pos) = r.step c := by
        rcases hcase with ⟨_, h, _⟩ | ⟨h, _, h'⟩
        · rw [h]
        · rw [step_high r h, step_high r h']
      have hmeas : s.size - (pos + wd) < s.size - pos := by omega
      have HM := Lib.hid hmeas
      have HS := Lib.hid hstep
      have HOK := Lib.hid hok
      have HR := Lib.hid hrun
      have HW := Lib.hid hW
      have hc32 : c ≤ 2147483647 := by omega
      have hk2 : r.at_ ≤ 2 := hok.at_
      have HWD : c < 128 → wd = 1 := by
        intro h
        rcases hcase with ⟨h, _, _⟩ | ⟨h, _, _⟩ <;> omega
      clear hnx hok hrun hcase hwd hp hW hmeas hstep
      by_cases hdot : c = 46
      · subst hdot
        obtain rfl := HWD (by omega)
        clear HWD
        by_cases hk : r.at_ < 2
        · have g1 : decide ((r.at_ : Int) < 2) = true := by simp; omega
          have hn : wrap64 ((r.at_ : Int) + 1) = ((r.at_ + 1 : Nat) : Int) := by unfold wrap64; omega
          have hs : r.step 46 = some ⟨r.at_ + 1, r.n0, r.n1, r.n2⟩ := by unfold Rd.step; rw [if_pos ⟨rfl, hk⟩]
          have HN := Lib.hid hs
          have HK := Lib.hid hk
          clear hk hk2 hs
          go_wp2_with fail
          go_roundw
          case rel =>
            have hs2 := HS.out.trans HN.out
            exact ⟨⟨r.at_ + 1, r.n0, r.n1, r.n2⟩, pos + 1, W, rfl, by rw [hn], HW.out.same rfl rfl rfl, HOK.out.step hs2, by rw [HR.out]; show ((r.step _).bind _) = _; rw [hs2]; rfl⟩
          case measure =>
            rw [HW.out.pos, HW.out.pos]
            exact HM.out
        · have g1 : decide ((r.at_ : Int) < 2) = false := by simp; omega
          have HN : Hid (r.step (byteAt s pos) = none) := Lib.hid (by rw [HS.out]; unfold Rd.step; rw [if_neg (by omega), if_neg (by omega)])
          clear hk hk2
          obtain ⟨⟨o0, o1, o2⟩, of, ob⟩ := HW.out.out (pos + 1)
          have OB := Lib.hid ob
          clear ob
          generalize W.iter s (pos + 1) = V at *
          go_wp2_with fail
          refine bodyPost_ret (v := readVal none) (by simp [results, Tryd.results12, go_sem, o0, o1, o2, of, readVal, zeroId, IdT.val, errOf]) rfl ⟨⟨none, rd_none (by rw [HR.out]; show ((Rd.step r _).bind _) = none; rw [HN.out]; rfl), rfl⟩, by have OB := OB.out; (repeat (first | exact Below.refl _ _ | assumption | refine Below.alloc ?_ (by first | omega | (simp; done) | (simp; omega)) _ | refine Below.setCell ?_ (by first | omega | (simp; done) | (simp; omega)) _ | refine Below.drew ?_))⟩
      · have g0 : ((c : Int) == 46) = false := by simp; omega
        by_cases hlo : 48 ≤ c
        · have g1 : decide ((48 : Int) ≤ (c : Int)) = true := by simp; omega
          by_cases hhi : c ≤ 57
          · have g2 : decide ((c : Int) ≤ 57) = true := by simp; omega
            obtain rfl := HWD (by omega)
            clear HWD
            obtain ⟨k, n0, n1, n2⟩ := r
            have hk3 : k = 0 ∨ k = 1 ∨ k = 2 := by simp only at hk2; omega
            clear hk2
            have u2 : IntKind.i32.wrap ((c : Int) - 48) = (c : Int) - 48 := by rw [IntKind.wrap_i32]; omega
            have u3 : IntKind.u64.wrap ((c : Int) - 48) = (c : Int) - 48 := by rw [IntKind.wrap_u64]; omega
            rcases hk3 with rfl | rfl | rfl
            · obtain ⟨q0, q1, q2⟩ := HW.out.cells (pos + 1)
              have qf := HW.out.free (pos + 1)
              simp only at q0 q1 q2
              by_cases hg : n0 ≤ 1844674407370955160
              · have g3 : decide ((n0 : Int) ≤ 1844674407370955160) = true := by simp; omega
                have u1 : IntKind.u64.wrap (10 * (n0 : Int)) = 10 * (n0 : Int) := by rw [IntKind.wrap_u64]; omega
                have u4 : IntKind.u64.wrap (10 * (n0 : Int) + ((c : Int) - 48)) = ((10 * n0 + (c - 48) : Nat) : Int) := by rw [IntKind.wrap_u64]; omega
                have hs : (⟨0, n0, n1, n2⟩ : Rd).step c = some ⟨0, 10 * n0 + (c - 48), n1, n2⟩ := by unfold Rd.step; rw [if_neg (by omega), if_pos ⟨hlo, hhi, hg⟩]; rfl
                have HN := Lib.hid hs
                clear hs hg hlo hhi hdot
                go_wp2_with fail
                go_roundw
                case rel =>
                  have hs2 := HS.out.trans HN.out
                  exact ⟨⟨0, 10 * n0 + (c - 48), n1, n2⟩, pos + 1, W.setCell ⟨w.heap.size + 1, 0, none⟩ (.int .u64 (10 * (n0 : Int) + ((c - 48 : Nat) : Int))), setCell_iter W s (pos + 1) _ _ (by have := HW.out.size; simp; omega), rfl, HW.out.set 0 _ (by simp), HOK.out.step hs2, by rw [HR.out]; show ((Rd.step _ _).bind _) = _; rw [hs2]; rfl⟩
                case measure =>
                  rw [setCell_iter W s (pos + 1) _ _ (by have := HW.out.size; simp; omega), (HW.out.set (r' := ⟨0, 10 * n0 + (c - 48), n1, n2⟩) 0 _ (by simp)).pos, HW.out.pos]
                  exact HM.out
              · have g3 : decide ((n0 : Int) ≤ 1844674407370955160) = false := by simp; omega
                have HN : Hid ((⟨0, n0, n1, n2⟩ : Rd).step (byteAt s pos) = none) := Lib.hid (by rw [HS.out]; unfold Rd.step; rw [if_neg (by omega), if_neg (by show ¬ (_ ∧ _ ∧ n0 ≤ _); omega)])
                clear hg hlo hhi hdot
                obtain ⟨⟨o0, o1, o2⟩, of, ob⟩ := HW.out.out (pos + 1)
                have OB := Lib.hid ob
                clear ob
                generalize W.iter s (pos + 1) = V at *
                go_wp2_with fail
                refine bodyPost_ret (v := readVal none) (by simp [results, Tryd.results12, go_sem, o0, o1, o2, of, readVal, zeroId, IdT.val, errOf]) rfl ⟨⟨none, rd_none (by rw [HR.out]; show ((Rd.step _ _).bind _) = none; rw [HN.out]; rfl), rfl⟩, by have OB := OB.out; (repeat (first | exact Below.refl _ _ | assumption | refine Below.alloc ?_ (by first | omega | (simp; done) | (simp; omega)) _ | refine Below.setCell ?_ (by first | omega | (simp; done) | (simp; omega)) _ | refine Below.drew ?_))⟩
            · obtain ⟨q0, q1, q2⟩ := HW.out.cells (pos + 1)
              have qf := HW.out.free (pos + 1)
              simp only at q0 q1 q2
              by_cases hg : n1 ≤ 1844674407370955160
              · have g3 : decide ((n1 : Int) ≤ 1844674407370955160) = true := by simp; omega
                have u1 : IntKind.u64.wrap (10 * (n1 : Int)) = 10 * (n1 : Int) := by rw [IntKind.wrap_u64]; omega
                have u4 : IntKind.u64.wrap (10 * (n1 : Int) + ((c : Int) - 48)) = ((10 * n1 + (c - 48) : Nat) : Int) := by rw [IntKind.wrap_u64]; omega
                have hs : (⟨1, n0, n1, n2⟩ : Rd).step c = some ⟨1, n0, 10 * n1 + (c - 48), n2⟩ := by unfold Rd.step; rw [if_neg (by omega), if_pos ⟨hlo, hhi, hg⟩]; rfl
                have HN := Lib.hid hs
                clear hs hg hlo hhi hdot
                go_wp2_with fail
                go_roundw
                case rel =>
                  have hs2 := HS.out.trans HN.out
                  exact ⟨⟨1, n0, 10 * n1 + (c - 48), n2⟩, pos + 1, W.setCell ⟨w.heap.size + 1, 1, none⟩ (.int .u64 (10 * (n1 : Int) + ((c - 48 : Nat) : Int))), setCell_iter W s (pos + 1) _ _ (by have := HW.out.size; simp; omega), rfl, HW.out.set 1 _ (by simp), HOK.out.step hs2, by rw [HR.out]; show ((Rd.step _ _).bind _) = _; rw [hs2]; rfl⟩
                case measure =>
                  rw [setCell_iter W s (pos + 1) _ _ (by have := HW.out.size; simp; omega), (HW.out.set (r' := ⟨1, n0, 10 * n1 + (c - 48), n2⟩) 1 _ (by simp)).pos, HW.out.pos]
                  exact HM.out
              · have g3 : decide ((n1 : Int) ≤ 1844674407370955160) = false := by simp; omega
                have HN : Hid ((⟨1, n0, n1, n2⟩ : Rd).step (byteAt s pos) = none) := Lib.hid (by rw [HS.out]; unfold Rd.step; rw [if_neg (by omega), if_neg (by show ¬ (_ ∧ _ ∧ n1 ≤ _); omega)])
                clear hg hlo hhi hdot
                obtain ⟨⟨o0, o1, o2⟩, of, ob⟩ := HW.out.out (pos + 1)
                have OB := Lib.hid ob
                clear ob
                generalize W.iter s (pos + 1) = V at *
                go_wp2_with fail
                refine bodyPost_ret (v := readVal none) (by simp [results, Tryd.results12, go_sem, o0, o1, o2, of, readVal, zeroId, IdT.val, errOf]) rfl ⟨⟨none, rd_none (by rw [HR.out]; show ((Rd.step _ _).bind _) = none; rw [HN.out]; rfl), rfl⟩, by have OB := OB.out; (repeat (first | exact Below.refl _ _ | assumption | refine Below.alloc ?_ (by first | omega | (simp; done) | (simp; omega)) _ | refine Below.setCell ?_ (by first | omega | (simp; done) | (simp; omega)) _ | refine Below.drew ?_))⟩
            · obtain ⟨q0, q1, q2⟩ := HW.out.cells (pos + 1)
              have qf := HW.out.free (pos + 1)
              simp only at q0 q1 q2
              by_cases hg : n2 ≤ 1844674407370955160
              · have g3 : decide ((n2 : Int) ≤ 1844674407370955160) = true := by simp; omega
                have u1 : IntKind.u64.wrap (10 * (n2 : Int)) = 10 * (n2 : Int) := by rw [IntKind.wrap_u64]; omega
                have u4 : IntKind.u64.wrap (10 * (n2 : Int) + ((c : Int) - 48)) = ((10 * n2 + (c - 48) : Nat) : Int) := by rw [IntKind.wrap_u64]; omega
                have hs : (⟨2, n0, n1, n2⟩ : Rd).step c = some ⟨2, n0, n1, 10 * n2 + (c - 48)⟩ := by unfold Rd.step; rw [if_neg (by omega), if_pos ⟨hlo, hhi, hg⟩]; rfl
                have HN := Lib.hid hs
                clear hs hg hlo hhi hdot
                go_wp2_with fail
                go_roundw
                case rel =>
                  have hs2 := HS.out.trans HN.out
                  exact ⟨⟨2, n0, n1, 10 * n2 + (c - 48)⟩, pos + 1, W.setCell ⟨w.heap.size + 1, 2, none⟩ (.int .u64 (10 * (n2 : Int) + ((c - 48 : Nat) : Int))), setCell_iter W s (pos + 1) _ _ (by have := HW.out.size; simp; omega), rfl, HW.out.set 2 _ (by simp), HOK.out.step hs2, by rw [HR.out]; show ((Rd.step _ _).bind _) = _; rw [hs2]; rfl⟩
                case measure =>
                  rw [setCell_iter W s (pos + 1) _ _ (by have := HW.out.size; simp; omega), (HW.out.set (r' := ⟨2, n0, n1, 10 * n2 + (c - 48)⟩) 2 _ (by simp)).pos, HW.out.pos]
                  exact HM.out
              · have g3 : decide ((n2 : Int) ≤ 1844674407370955160) = false := by simp; omega
                have HN : Hid ((⟨2, n0, n1, n2⟩ : Rd).step (byteAt s pos) = none) := Lib.hid (by rw [HS.out]; unfold Rd.step; rw [if_neg (by omega), if_neg (by show ¬ (_ ∧ _ ∧ n2 ≤ _); omega)])
                clear hg hlo hhi hdot
                obtain ⟨⟨o0, o1, o2⟩, of, ob⟩ := HW.out.out (pos + 1)
                have OB := Lib.hid ob
                clear ob
                generalize W.iter s (pos + 1) = V at *
                go_wp2_with fail
                refine bodyPost_ret (v := readVal none) (by simp [results, Tryd.results12, go_sem, o0, o1, o2, of, readVal, zeroId, IdT.val, errOf]) rfl ⟨⟨none, rd_none (by rw [HR.out]; show ((Rd.step _ _).bind _) = none; rw [HN.out]; rfl), rfl⟩, by have OB := OB.out; (repeat (first | exact Below.refl _ _ | assumption | refine Below.alloc ?_ (by first | omega | (simp; done) | (simp; omega)) _ | refine Below.setCell ?_ (by first | omega | (simp; done) | (simp; omega)) _ | refine Below.drew ?_))⟩
          · have g2 : decide ((c : Int) ≤ 57) = false := by simp; omega
            have HN : Hid (r.step (byteAt s pos) = none) := Lib.hid (by rw [HS.out]; unfold Rd.step; rw [if_neg (by omega), if_neg (by omega)])
            clear HWD hk2 hlo hhi hdot
            obtain ⟨⟨o0, o1, o2⟩, of, ob⟩ := HW.out.out (pos + wd)
            have OB := Lib.hid ob
            clear ob
            generalize W.iter s (pos + wd) = V at *
            go_wp2_with fail
            refine bodyPost_ret (v := readVal none) (by simp [results, Tryd.results12, go_sem, o0, o1, o2, of, readVal, zeroId, IdT.val, errOf]) rfl ⟨⟨none, rd_none (by rw [HR.out]; show ((Rd.step r _).bind _) = none; rw [HN.out]; rfl), rfl⟩, by have OB := OB.out; (repeat (first | exact Below.refl _ _ | assumption | refine Below.alloc ?_ (by first | omega | (simp; done) | (simp; omega)) _ | refine Below.setCell ?_ (by first | omega | (simp; done) | (simp; omega)) _ | refine Below.drew ?_))⟩
        · have g1 : decide ((48 : Int) ≤ (c : Int)) = false := by simp; omega
          have HN : Hid (r.step (byteAt s pos) = none) := Lib.hid (by rw [HS.out]; unfold Rd.step; rw [if_neg (by omega), if_neg (by omega)])
          clear HWD hk2 hlo hdot
          obtain ⟨⟨o0, o1, o2⟩, of, ob⟩ := HW.out.out (pos + wd)
          have OB := Lib.hid ob
          clear ob
          generalize W.iter s (pos + wd) = V at *
          go_wp2_with fail
          refine bodyPost_ret (v := readVal none) (by simp [results, Tryd.results12, go_sem, o0, o1, o2, of, readVal, zeroId, IdT.val, errOf]) rfl ⟨⟨none, rd_none (by rw [HR.out]; show ((Rd.step r _).bind _) = none; rw [HN.out]; rfl), rfl⟩, by have OB := OB.out; (repeat (first | exact Below.refl _ _ | assumption | refine Below.alloc ?_ (by first | omega | (simp; done) | (simp; omega)) _ | refine Below.setCell ?_ (by first | omega | (simp; done) | (simp; omega)) _ | refine Below.drew ?_))⟩
    · have hnx' := fun ty => run_next_stop s pos hp W ty (w.heap.size + 2) hW.size
      have hend : rd0.run (nats s.data.toList) = some r := by rw [hrun, nats_drop_all s pos hp]; rfl
      obtain ⟨q0, q1, q2⟩ := hW.cells pos
      obtain ⟨⟨o0, o1, o2⟩, of, ob⟩ := hW.out pos
      have hres : (W.iter s pos).heap[w.heap.size]? = some (.cells #[.int .u64 0, .int .i64 0, .int .u64 0] 27 (0, 0)) := heap_alloc_keeps hW.res _
      have hsz : (W.iter s pos).heap.size = w.heap.size + 3 := by have := hW.size; simp [World.iter]; omega
      have OB := Lib.hid ob
      have HE := Lib.hid hend
      have HOK := Lib.hid hok
      have HZ := Lib.hid hsz
      have HRS := Lib.hid hres
      clear hrun hW hok hp ob hend hsz hres
      generalize W.iter s pos = V at *
      by_cases h8 : 8 < r.n1
      · have g1 : decide ((8 : Int) < (r.n1 : Int)) = true := by simp; omega
        have H8 := Lib.hid h8
        clear h8
        go_wp2_with fail
        refine bodyPost_ret (v := readVal none) (by simp [results, Tryd.results12, go_sem, o0, o1, o2, of, readVal, zeroId, IdT.val, errOf]) rfl ⟨⟨none, rd_site HE.out H8.out, rfl⟩, by have OB := OB.out; (repeat (first | exact Below.refl _ _ | assumption | refine Below.alloc ?_ (by first | omega | (simp; done) | (simp; omega)) _ | refine Below.setCell ?_ (by first | omega | (simp; done) | (simp; omega)) _ | refine Below.drew ?_))⟩
      · have g1 : decide ((8 : Int) < (r.n1 : Int)) = false := by simp; omega
        have u1 : IntKind.i64.wrap (r.n1 : Int) = (r.n1 : Int) := by rw [IntKind.wrap_i64]; omega
        have hfit : r.id.Fits := by
          have h0 := HOK.out.b0
          have h1 := HOK.out.b1
          have h2 := HOK.out.b2
          unfold IdT.Fits Rd.id
          dsimp only
          omega
        have HF := Lib.hid hfit
        clear h8 hfit
        go_wp2_with fail
        refine (idCheck_any r.id _).mono ?_
        rintro e w2 ⟨rfl, hb⟩
        have hz := HZ.out
        have k0 := (hb.block w.heap.size (by simp; omega)).trans (heap_alloc_keeps HRS.out _)
        have k1 := (hb.block V.heap.size (by simp)).trans (newBlock V _ _ rfl)
        have hB := (OB.out.alloc (by omega) _).trans (hb.mono (by simp; omega))
        have f0 := cell_of_block (k := 0) k0 rfl
        have f1 := cell_of_block (k := 1) k0 rfl
        have f2 := cell_of_block (k := 2) k0 rfl
        have ff := free_of_block k0
        have HB := Lib.hid hB
        have K0 := Lib.hid k0
        have K1 := Lib.hid k1
        clear hz k0 k1 hB hb q0 q1 q2 o0 o1 o2 of g1 u1
        cases hck : idOk r.id
        · have HCK := Lib.hid hck
          clear hck
          go_wp2_with fail
          refine bodyPost_ret (v := readVal none) (by simp [results, Tryd.results12, go_sem, f0, f1, f2, ff, readVal, zeroId, IdT.val, errOf]) rfl ⟨⟨none, rd_bad HE.out HCK.out, rfl⟩, by have OB := HB.out; (repeat (first | exact Below.refl _ _ | assumption | refine Below.alloc ?_ (by first | omega | (simp; done) | (simp; omega)) _ | refine Below.setCell ?_ (by first | omega | (simp; done) | (simp; omega)) _ | refine Below.drew ?_))⟩
        · have HCK := Lib.hid hck
          have g0 := cell_of_block (k := 0) K1.out rfl
          have g1 := cell_of_block (k := 1) K1.out rfl
          have g2 := cell_of_block (k := 2) K1.out rfl
          clear hck
          go_wp2_with fail
          refine (text_any r.id HF.out _ (HT.out.below HB.out)).mono ?_
          rintro e w3 ⟨rfl, hb3⟩
          have k0 := (hb3.block _ (block_lt K0.out)).trans K0.out
          have k1 := (hb3.block _ (block_lt K1.out)).trans K1.out
          have hB := HB.out.trans (hb3.mono HB.out.size)
          clear g0 g1 g2 f0 f1 f2 ff
          have f0 := cell_of_block (k := 0) k0 rfl
          have f1 := cell_of_block (k := 1) k0 rfl
          have f2 := cell_of_block (k := 2) k0 rfl
          have ff := free_of_block k0
          have g0 := cell_of_block (k := 0) k1 rfl
          have g1 := cell_of_block (k := 1) k1 rfl
          have g2 := cell_of_block (k := 2) k1 rfl
          have HB3 := Lib.hid hB
          clear k0 k1 hB hb3
          obtain ⟨T, hT1, hT2⟩ : ∃ T : ByteArray, str (idText r.id) = .string T ∧ T = ⟨(idText r.id).toArray⟩ := ⟨_, rfl, rfl⟩
          rw [hT1]
          have HT2 := Lib.hid hT2
          clear hT1 hT2
          have hbq := (Lib.bytes_beq_iff T s)
          cases e1 : (T.toList == s.toList)
          · rw [e1] at hbq
            have HBQ := Lib.hid hbq
            clear hbq
            go_wp2_with fail
            refine bodyPost_ret (v := readVal none) (by simp [results, Tryd.results12, go_sem, f0, f1, f2, ff, readVal, zeroId, IdT.val, errOf]) rfl ⟨⟨none, rd_other HE.out (fun h => by have := HBQ.out.2 (HT2.out.trans h); simp at this), rfl⟩, by have OB := HB3.out; (repeat (first | exact Below.refl _ _ | assumption | refine Below.alloc ?_ (by first | omega | (simp; done) | (simp; omega)) _ | refine Below.setCell ?_ (by first | omega | (simp; done) | (simp; omega)) _ | refine Below.drew ?_))⟩
          · have heq := hbq.1 e1
            have HEQ := Lib.hid heq
            clear hbq heq
            go_wp2_with fail
            refine bodyPost_ret (v := readVal (some r.id)) (by simp [results, Tryd.results12, go_sem, f0, f1, f2, ff, readVal, IdT.val, errOf, Rd.id]) rfl ⟨⟨some r.id, ⟨HCK.out, HEQ.out.symm.trans HT2.out⟩, rfl⟩, by have OB := HB3.out; (repeat (first | exact Below.refl _ _ | assumption | refine Below.alloc ?_ (by first | omega | (simp; done) | (simp; omega)) _ | refine Below.setCell ?_ (by first | omega | (simp; done) | (simp; omega)) _ | refine Below.drew ?_))⟩
end Go.Proofs.YtppaheekpmgifaaDoor
