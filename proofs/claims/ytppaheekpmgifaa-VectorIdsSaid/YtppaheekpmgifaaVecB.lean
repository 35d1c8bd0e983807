/- Package vector: Check. -/
import Derived.Test.YtppaheekpmgifaaVecA
namespace Go.Proofs.Ytppaheekpmgifaa
set_option linter.unusedSimpArgs false
set_option linter.unusedVariables false
open Go.RowKit Go.Shelf
attribute [local go_sem] Oper.semAt_some

theorem sitesOk_false_of {v : Nat → Int} (x : Fin 8) (hx : MaxT < v (x.1 + 1)) : sitesOk v = false := by
  cases hs : sitesOk v with
  | false => rfl
  | true =>
    have := (sitesOk_iff v).1 hs (x.1 + 1) (by omega) (by omega)
    omega

theorem sitesOk_of_all {v : Nat → Int} (h : ∀ x ∈ List.finRange 8, v (x.1 + 1) ≤ MaxT) : sitesOk v = true := by
  rw [sitesOk_iff]
  intro k h1 h9
  have := h ⟨k - 1, by omega⟩ (List.mem_finRange _)
  have e : k - 1 + 1 = k := by omega
  simpa [e] using this

set_option maxRecDepth 100000 in
set_option maxHeartbeats 2000000 in
theorem vecCheck_any (v : Nat → Int) (w : World) : Calls Try.prog 12 #[vecV v] w (Gives (.int .i64 (errOf (vecOk v) 230)) w) := by
  by_cases h0 : v 0 = 0
  · refine (callsIn_wide (n := 10)).1 ?_
    refine callsIn_of_wp_marks Try.func12 rfl trivial ?_ rfl
    simp only [vecV, lit9, Try.ntmps12, List.size_toArray, List.length_cons, List.length_nil, Nat.reduceAdd, Nat.reduceSub, Array.replicate_succ, Array.replicate_zero, List.push_toArray, List.append_toArray, List.nil_append, List.cons_append]
    have hz : (v 0 != 0) = false := by simp [h0]
    have Hv := Lib.hid h0
    clear h0
    gi_wp2_with (gi_at_call 40; refine (callsIn_wide.2 (sites_any _ _)).mono ?_; rintro e w' ⟨rfl, rfl⟩)
    refine range_iter (gf := 49) (lb := #[.pointer (some ⟨w.heap.size + 1 + 1 + 1, 0, none⟩)])
      (sites_iter (w.heap.size + 1 + 1 + 1) (w.heap.size + 1 + 1) v _ (by simp) (by simp) ?hc ?hh) (by omega) rfl (enters_of Try.func49 (by kernel_rfl) rfl)
      (by simp) (Below.refl _ _) (fun _ => rfl) (fun x => [(12, .int .i64 (((x.1 + 1 : Nat)) : Int)), (13, .int .u64 (v (x.1 + 1)))]) (fun _ => by simp [siteArgs])
      (fun pre W => (∀ x ∈ pre, v (x.1 + 1) ≤ MaxT) ∧ Below w.heap.size w W ∧ (W.cell? ⟨w.heap.size + 1, 0, none⟩ = some (.int .i64 0) ∧ W.frozen? ⟨w.heap.size + 1, 0, none⟩ = false))
      (fun c _ W => (c = .ret ∧ sitesOk v = false) ∧ Below w.heap.size w W ∧ W.cell? ⟨w.heap.size + 1, 0, none⟩ = some (.int .i64 230))
      (OwnFrom.and (ownFrom_pure _ _) (OwnFrom.and (ownFrom_below (Nat.le_refl _) (by simp; omega)) (ownFrom_free _ _)))
      (fun c => OwnFrom.and (ownFrom_pure _ _) (OwnFrom.and (ownFrom_below (Nat.le_refl _) (by simp; omega)) (ownFrom_cell _ _)))
      ?h0 (fun x => [(4, .int .u64 (v (x.1 + 1)))]) ?assign ?body ?done ?stop
    case hc => simp [go_sem]
    case hh =>
      intro k hk
      have h9 := lit9_get v k hk
      unfold lit9 at h9
      simp [go_sem] at h9 ⊢
      exact h9
    case h0 =>
      refine ⟨by simp, ?_, by simp [go_sem], by simp [go_sem]⟩
      repeat (first | exact Below.refl _ _ | refine Below.alloc ?_ (by first | omega | (simp; done) | (simp; omega)) _)
    case assign =>
      intro l x W K hK
      simp only [loopAct, List.foldl, List.cons_append, List.nil_append] at hK ⊢
      gi_wp2
      exact hK
    case body =>
      rintro l pre x W ⟨hI, hB, hc, hf⟩ _
      simp only [loopAct, List.foldl, List.cons_append, List.nil_append]
      gi_wp2
      · exact ⟨KeepsOthers.setCell _ _ _, ⟨rfl, sitesOk_false_of x (by assumption)⟩, hB.setCell (p := ⟨w.heap.size + 1, 0, none⟩) (by simp) _, World.cell?_setCell_same _ _ _ hc⟩
      · refine ⟨KeepsOthers.refl _, KeepsAt.refl _ _, ?_, hB, hc, hf⟩
        intro y hy
        rcases List.mem_append.1 hy with hy | hy
        · exact hI y hy
        · rw [List.mem_singleton.1 hy]; assumption
    case done =>
      rintro D W hD ⟨hI, hB, hc, hf⟩ hK
      have hK2 := (KeepsOthers.setCell W ⟨w.heap.size + 1, 0, none⟩ (.int .i64 0)).same D _ hK rfl
      have hc2 := World.cell?_setCell_same W ⟨w.heap.size + 1, 0, none⟩ (.int .i64 0) hc
      gi_wp2
      simp at hD
      refine ret_marked rfl hK2 (v := .int .i64 0) (by simp [results, Try.results12, go_sem, putObj_cell hc2 hK2]) ⟨ret_int (by simp [errOf, vecOk, Hv.out, sitesOk_of_all hI]), ?_⟩
      exact below_putObj (hB.setCell (p := ⟨w.heap.size + 1, 0, none⟩) (by simp) _) hK2 (by omega) _
    case stop =>
      rintro D c pre W hD _ ⟨⟨rfl, hI⟩, hB, hc⟩ hK
      gi_wp2
      simp at hD
      refine ret_marked rfl hK (v := .int .i64 230) (by simp [results, Try.results12, go_sem, putObj_cell hc hK]) ⟨ret_int (by simp [errOf, vecOk, hI]), ?_⟩
      exact below_putObj hB hK (by omega) _
  · go_enter Try.func12, Try.ntmps12
    simp only [vecV, lit9]
    have hz : (v 0 != 0) = true := by simp [h0]
    have Hv := Lib.hid h0
    clear h0
    go_wp2_with fail
    refine bodyPost_ret (v := .int .i64 230) (by simp [results, Try.results12, go_sem]) rfl ⟨ret_int (by simp [errOf, vecOk, Hv.out]), ?_⟩
    exact ((Below.refl _ _).alloc (Nat.le_refl _) _).alloc (by simp) _
end Go.Proofs.Ytppaheekpmgifaa
