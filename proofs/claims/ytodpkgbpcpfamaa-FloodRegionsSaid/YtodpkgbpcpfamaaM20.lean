/- Merged texts: DocN. -/
import Derived.Test.YtodpkgbpcpfamaaM19
import Derived.Test.YtodpkgbpcpfamaaM17
/- Layer 8: no canvas; wrong rows; a span on a canvas. -/
namespace Go.Proofs.Ytodpkgbpcpfamaa
set_option linter.unusedSimpArgs false
set_option linter.unusedVariables false
open Go.RowKit Go.Shelf
attribute [local go_sem] Oper.semAt_some
set_option maxRecDepth 100000 in
theorem region_nil (p : PtT) (t : Int) (w : World) : Calls Try.prog 16 #[.pointer none, p.val, .int .i64 t] w (Gives (.tuple #[.slice none 0 0, .int .i64 1]) w) := by
 have HS := Lib.hid (St.start w)
 have HB := Lib.hid (fun w => begun_nil p t w)
 obtain ⟨x, y⟩ := p
 unfold PtT.val at *
 simp only at HB
 go_enter Try.func16, Try.ntmps16
 repeat ((fail_if_success (with_reducible refine stop_at (id := 1) ?_)); (first | go_values | go_skip | go_guarded | go_step | go_upon | go_back | (simp only [Int.not_lt, Int.not_le] at *; go_simp) | (go_values <;> (try go_simp)) | (go_ite <;> go_prune <;> (try go_simp)) | (split <;> (first | (rename_i hx; exact (hx _ rfl).elim) | go_prune))))
 have hs_ := (HS.out.alloc (.cells #[.int .i64 x, .int .i64 y] 41))
 obtain ⟨w1, hw_⟩ : ∃ w1 : World, (w.alloc (.cells #[.int .i64 x, .int .i64 y] 41)) = w1 := ⟨_, rfl⟩
 rw [hw_] at hs_
 try simp only [World.size_alloc] at hs_
 have HS := Lib.hid hs_
 rw [hw_]
 clear hw_ hs_
 have k0 := cell_of_block (k := 0) (HS.out.blockAt 0 rfl) rfl
 have k1 := cell_of_block (k := 1) (HS.out.blockAt 0 rfl) rfl
 go_wp2_with fail
 refine (HB.out _).mono ?_
 rintro e w2 ⟨rfl, hb_⟩
 have HS := Lib.hid (HS.out.below hb_)
 clear hb_
 go_wp2_with fail
 refine bodyPost_ret (v := .tuple #[.slice none 0 0, .int .i64 1]) (by simp [results, Try.results16, go_sem]) rfl ⟨rfl, HS.out.low⟩
end Go.Proofs.Ytodpkgbpcpfamaa
