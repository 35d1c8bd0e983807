/- VectorMeets: rows of vectors, cloned and compared; what Join and Meet say, at every row. -/
import Derived.Test.YtppaheekpmgifaaRefE
import Derived.Test.YtppaheekpmgifaaState
import Derived.Test.YtppaheekpmgifaaFillsB
namespace Go.Proofs.Ytppaheekpmgifaa
set_option linter.unusedSimpArgs false
set_option linter.unusedVariables false
open Go.RowKit Go.Shelf

def encV (v : Nat → Int) : List Value := (lit9 v).toList
theorem encV_len (v : Nat → Int) : (encV v).length = 9 := rfl
theorem encV_agg (v : Nat → Int) : .agg (encV v).toArray = vecV v := rfl
/-- Element i of a row of vectors. -/
def vAt (l : List (Nat → Int)) (i : Nat) : Nat → Int := (l[i]?).getD fun _ => 0
theorem rowC_vec (l : List (Nat → Int)) (j : Nat) (h : j < l.length * 9) : rowC encV l j = vecCells (vAt l) j := by
  have hk : j / 9 < l.length := by omega
  have h1 := flat_get encV_len l (j / 9) (j % 9) (by omega)
  rw [show j / 9 * 9 + j % 9 = j from by omega, List.getElem?_eq_getElem hk] at h1
  unfold rowC vecCells vAt
  rw [h1, List.getElem?_eq_getElem hk]
  show (((lit9 l[j / 9]).toList[j % 9]?).getD undef) = .int .u64 (l[j / 9] (j % 9))
  rw [Array.getElem?_toList, lit9_get _ _ (by omega)]
  rfl
theorem Elems.vecs {w : World} {sv : Value} {l : List (Nat → Int)} {n : Nat} (hn : l.length = n) (h : Elems w sv n 9 (rowC encV l)) : Elems w sv n 9 (vecCells (vAt l)) := by
  subst hn
  rcases h with h | ⟨b, off, cap, e, hlt, hc⟩
  · exact .inl h
  · exact .inr ⟨b, off, cap, e, hlt, fun j hj => by rw [hc j hj, rowC_vec l j hj]⟩

theorem lay_eqVec : Go.Proofs.SlLaysQ.n8 Try.prog ⟨fun | 8 => 25 | n => n, fun | 22 => 42 | 24 => 24 | 4 => 4 | 3 => 3 | 0 => 0 | n => n, fun | n => n⟩ := {
  mixed := by kernel_rfl
  f8 := ⟨Try.f25.name, by decide, Try.func25.trans (congrArg some (by kernel_rfl))⟩
  t22 := Try.underlying42
  a22 := Try.isAgg42
  z22 := Try.sizeOf42
  v22 := Try.zeroValue42
  t4 := Try.underlying4
  a4 := Try.isAgg4
  z4 := Try.sizeOf4
  v4 := Try.zeroValue4
  t3 := Try.underlying3
  a3 := Try.isAgg3
  z3 := Try.sizeOf3
  v3 := Try.zeroValue3
  t0 := Try.underlying0
  a0 := Try.isAgg0
  z0 := Try.sizeOf0
  v0 := Try.zeroValue0 }
theorem lay_cloneVec : Go.Proofs.SlLaysE0.n41 Try.prog ⟨fun | 41 => 18 | n => n, fun | 22 => 42 | 23 => 24 | 4 => 4 | n => n, fun | n => n⟩ := {
  mixed := by kernel_rfl
  f41 := ⟨Try.f18.name, by decide, Try.func18.trans (congrArg some (by kernel_rfl))⟩
  t22 := Try.underlying42
  a22 := Try.isAgg42
  z22 := Try.sizeOf42
  v22 := Try.zeroValue42
  t4 := Try.underlying4
  a4 := Try.isAgg4
  z4 := Try.sizeOf4
  v4 := Try.zeroValue4 }

def vecEqB (x y : Nat → Int) : Bool := (List.range 9).all fun k => x k == y k
theorem vecEqB_self (x : Nat → Int) : vecEqB x x = true := by simp [vecEqB]
theorem neq_vec : NeqAt Try.prog 24 (fun x => .agg (encV x).toArray) vecEqB := by
  obtain ⟨i0, hi, _, hz1, _⟩ := info_parts info22
  exact ⟨fun x y w => run_neq_array w 24 22 9 .u64 i0 Try.underlying24 Try.underlying22 hi hz1 _ _ x y (fun i h => lit9_get x i h) (fun i h => lit9_get y i h), GuardAt.agg _ (by kernel_rfl)⟩

theorem infoVec : (Try.prog.info? 24).map (fun i => (i.zero, i.size, i.bytes)) = some (some (.agg (lit9 fun _ => 0)), 9, 72) := by kernel_rfl

theorem eqVec_any (s1 s2 : Value) (l m : List (Nat → Int)) (w : World) (h1 : Elems w s1 l.length 9 (rowC encV l)) (h2 : Elems w s2 m.length 9 (rowC encV m)) (hl : l.length ≤ 1000000000) :
    Calls Try.prog 25 #[s1, s2] w (Gives (.bool (Lib.allEq vecEqB l m)) w) :=
  eqRows lay_eqVec 9 Try.isAgg24 Try.sizeOf24 encV encV_len vecEqB neq_vec s1 s2 l m w h1 h2 hl
theorem cloneVec_any (sv : Value) (l : List (Nat → Int)) (w : World) (h : Elems w sv l.length 9 (rowC encV l)) (hl : l.length ≤ 1000000000) :
    Calls Try.prog 18 #[sv] w (Cloned 24 9 l.length (l.flatMap encV) sv w) := by
  obtain ⟨i0, hi, hz0, hz1, hz2⟩ := info_parts infoVec
  exact cloneRows lay_cloneVec i0 _ 9 72 hi hz0 hz1 hz2 rfl (by omega) Try.sizeOf24 encV encV_len (fun x u hu => by simp [encV, lit9] at hu; rcases hu with rfl | rfl | rfl | rfl | rfl | rfl | rfl | rfl | rfl <;> rfl) sv l w h hl (by omega)

/-- What Join (Meet) gives. -/
def mergeR (f : Int → Int → Int) (v : Nat → Int) (x : Nat → Nat → Int) (n : Nat) : Nat → Int := if okTo v x n = true then mergeN f v x n else fun _ => 0
theorem join_any (v : Nat → Int) (sv : Value) (n : Nat) (x : Nat → Nat → Int) (w : World) (hn : n ≤ 1000000) (he : Elems w sv n 9 (vecCells x)) :
    Calls Try.prog 8 #[vecV v, sv] w (Gives (.tuple #[vecV (mergeR max v x n), .int .i64 (errOf (okTo v x n) 230)]) w) := by
  unfold mergeR
  cases h : okTo v x n
  · exact join_no v sv n x w hn he (fun hh => by rw [(okTo_iff v x n).2 hh] at h; cases h)
  · obtain ⟨h1, h2⟩ := (okTo_iff v x n).1 h
    exact join_ok v sv n x w hn he h1 h2

theorem meet_any (v : Nat → Int) (sv : Value) (n : Nat) (x : Nat → Nat → Int) (w : World) (hn : n ≤ 1000000) (he : Elems w sv n 9 (vecCells x)) :
    Calls Try.prog 9 #[vecV v, sv] w (Gives (.tuple #[vecV (mergeR min v x n), .int .i64 (errOf (okTo v x n) 230)]) w) := by
  unfold mergeR
  cases h : okTo v x n
  · exact meet_no v sv n x w hn he (fun hh => by rw [(okTo_iff v x n).2 hh] at h; cases h)
  · obtain ⟨h1, h2⟩ := (okTo_iff v x n).1 h
    exact meet_ok v sv n x w hn he h1 h2

/-- A vector is written into a box. -/
def set9 (w : World) (p : Nat) (x : Nat → Int) : World := ((((((((w.setCell ⟨p, 0, none⟩ (.int .u64 (x 0))).setCell ⟨p, 1, none⟩ (.int .u64 (x 1))).setCell ⟨p, 2, none⟩ (.int .u64 (x 2))).setCell ⟨p, 3, none⟩ (.int .u64 (x 3))).setCell ⟨p, 4, none⟩ (.int .u64 (x 4))).setCell ⟨p, 5, none⟩ (.int .u64 (x 5))).setCell ⟨p, 6, none⟩ (.int .u64 (x 6))).setCell ⟨p, 7, none⟩ (.int .u64 (x 7))).setCell ⟨p, 8, none⟩ (.int .u64 (x 8))
theorem St.set9 {w0 x : World} {pre post : List It} {p : Nat} {o : Nat → Int} {t : TypeId} (h : St w0 (pre ++ .blk p (.cells (lit9 o) t) :: post) x) (u : Nat → Int) (hpre : ∀ i ∈ pre, ∃ b ob, i = .blk b ob) : St w0 (pre ++ .blk p (.cells (lit9 u) t) :: post) (set9 x p u) :=
  h.set hpre (heap_set9 u (show x.heap[p]? = some (.cells (lit9 o) t) from h.ok (.blk p _) (by simp))) (fun k hk => heap_set9_eq u hk) (below_set9 u (Below.refl _ _) (Nat.le_refl _))
end Go.Proofs.Ytppaheekpmgifaa
