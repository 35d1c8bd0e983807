/- ShapeSweeps: the walk. -/
import Derived.Test.YtflbcabjefpojaaClips
import Derived.Test.YtflbcabjefpojaaShU
import Derived.Test.YtflbcabjefpojaaShH
namespace Go.Proofs.Ytflbcabjefpojaa
set_option linter.unusedSimpArgs false
set_option linter.unusedVariables false
open Go.RowKit Go.Shelf

theorem GivesRow.got {α : Type} {k : Nat} {enc : α → List Value} (hk : ∀ q, (enc q).length = k) {E : TypeId} {L : List α} {w : World} {e : Ending} {w' : World} (h : GivesRow E k L.length (L.flatMap enc) w e w') : ∃ a cap, e = .returned (.slice a L.length cap) ∧ Elems w' (.slice a L.length cap) L.length k (rowC enc L) ∧ Below w.heap.size w w' := by
  obtain ⟨v, rfl, hr, hb⟩ := h
  have he := ownsRow_rows hk hr
  obtain ⟨a, cap, rfl, -⟩ := he.shape
  exact ⟨a, cap, rfl, he, hb⟩
theorem elems_nil {α : Type} {k : Nat} {enc : α → List Value} (w : World) : Elems w (.slice none 0 0) 0 k (rowC enc ([] : List α)) := .inl ⟨rfl, rfl⟩

set_option maxRecDepth 100000 in
set_option maxHeartbeats 4000000 in
theorem sweeps_any (a : Option Addr) (n cap : Nat) (x : List PtT) (hl : x.length = n) (hc : n ≤ cap) (hc2 : cap ≤ 9223372036854775807) (size : Int) (round : Bool) (w : World) (h : Elems w (.slice a n cap) n 2 (rowC encP x)) :
    Calls Try.prog 3 #[.slice a n cap, .agg #[.int .i64 size, .bool round]] w (Gives (.bool true) w) := by
  obtain ⟨m, hm⟩ : ∃ m, min n 30 = m := ⟨_, rfl⟩
  have hel := Elems.take encP_len hl h (show m ≤ n by omega)
  obtain ⟨l, hll⟩ : ∃ l, x.take m = l := ⟨_, rfl⟩
  rw [hll] at hel
  have hlm : l.length = m := by rw [← hll, List.length_take]; omega
  have hm30 : m ≤ 30 := by omega
  have HLM := Lib.hid (And.intro hlm hm30)
  have HS := Lib.hid (((St.start w).addRow h).addRow hel)
  have e1 : min (n : Int) 30 = (m : Int) := by omega
  have hmc : m ≤ cap := by omega
  have HCL := Lib.hid (fun w h => (cloneP_any (.slice a m cap) l w h (by omega)).mono fun _ _ h => h.got encP_len)
  rw [hlm] at HCL
  have HSW := Lib.hid (fun a cap w h => shSweep_any a m cap l hlm (by omega) size round w h)
  obtain ⟨ok, hok⟩ : ∃ ok, (sizeB size && !l.any (fun p => !drawnB p)) = ok := ⟨_, rfl⟩
  rw [hok] at HSW
  obtain ⟨sz, hsz⟩ : ∃ sz, sizeB size = sz := ⟨_, rfl⟩
  obtain ⟨dr, hdr⟩ : ∃ dr, l.any (fun p => !drawnB p) = dr := ⟨_, rfl⟩
  have HSZ := Lib.hid (fun w => refSize_any size w)
  simp only [hsz] at HSZ
  have HDR := Lib.hid (fun a cap w h => containsFuncLaw (fun p => !drawnB p) #[] a m cap l hlm (by omega) w h (fun x y _ => law1_any x y))
  simp only [hdr] at HDR
  have HOK := Lib.hid (show (sz && !dr) = ok by rw [← hok, hsz, hdr])
  have HD := Lib.hid (And.intro hsz hdr)
  clear hm hll hlm hm30 h hl hc hel hok hsz hdr
  go_enter Try.func3, Try.ntmps3
  repeat ((fail_if_success (with_reducible refine stop_at (id := 1) ?_)); (first | go_values | go_skip | go_guarded | go_step | go_upon | go_back | (simp only [Int.not_lt, Int.not_le] at *; go_simp) | (go_values <;> (try go_simp)) | (go_ite <;> go_prune <;> (try go_simp)) | (split <;> (first | (rename_i hx; exact (hx _ rfl).elim) | go_prune))))
  have hs_ := (HS.out.alloc (.cells #[.int .i64 size, .bool round] 24))
  obtain ⟨w1, hw_⟩ : ∃ w1 : World, (w.alloc (.cells #[.int .i64 size, .bool round] 24)) = w1 := ⟨_, rfl⟩
  rw [hw_] at hs_
  try simp only [World.size_alloc] at hs_
  have HS := Lib.hid hs_
  rw [hw_]
  clear hw_ hs_
  go_wp2_with fail
  refine (wakes_any _).mono ?_
  rintro e w2 ⟨rfl, hb_⟩
  have HS := Lib.hid (HS.out.below hb_)
  clear hb_
  go_wp2_with fail
  refine (HCL.out w2 (HS.out.elems 1 rfl)).mono ?_
  rintro e w3 ⟨-, a3, c3, rfl, hc3, he_, hb_⟩
  have HS := Lib.hid ((HS.out.below hb_).addRow he_)
  clear hb_ he_
  have q0 := cell_of_block (k := 0) (HS.out.blockAt 1 rfl) rfl
  have q1 := cell_of_block (k := 1) (HS.out.blockAt 1 rfl) rfl
  go_wp2_with fail
  clear q0 q1
  refine (HSW.out _ _ _ (HS.out.elems 0 rfl)).mono ?_
  rintro e w4 hg
  obtain ⟨M1, m1, m2, m3, -, a4, c4, rfl, he_, hb_⟩ := hg.got
  clear hg
  obtain ⟨k1, hk1⟩ : ∃ k1, M1.length = k1 := ⟨_, rfl⟩
  rw [hk1] at m3 he_
  rw [hk1]
  have HM1 := Lib.hid (And.intro m1 (And.intro m2 (And.intro m3 hk1)))
  have HS := Lib.hid ((HS.out.below hb_).addRow he_)
  clear m1 m2 m3 he_ hb_ hk1 HSW HCL
  have q0 := cell_of_block (k := 0) (HS.out.blockAt 2 rfl) rfl
  have q1 := cell_of_block (k := 1) (HS.out.blockAt 2 rfl) rfl
  go_wp2_with fail
  clear q0 q1
  refine (HSZ.out _).mono ?_
  rintro e w5 ⟨rfl, hb_⟩
  have HS := Lib.hid (HS.out.below hb_)
  clear hb_
  cases sz
  · obtain rfl : ok = false := by rw [← HOK.out]; simp
    have hM0 : M1 = [] := HM1.out.2.1 rfl
    have hk0 : k1 = 0 := by rw [← HM1.out.2.2.2, hM0]; rfl
    subst hM0 hk0
    go_wp2_with fail
    refine (eqS_same _ _ [] 0 rfl _ (HS.out.elems 0 rfl) (elems_nil _)).mono ?_
    rintro e w6a ⟨rfl, hb_⟩
    have HS := Lib.hid (HS.out.below hb_)
    clear hb_
    go_wp2_with fail
    refine (eqP_same _ _ l m HLM.out.1 _ (HS.out.elems 1 rfl) (HS.out.elems 3 rfl) (by have := HLM.out.2; omega)).mono ?_
    rintro e w6b ⟨rfl, hb_⟩
    have HS := Lib.hid (HS.out.below hb_)
    clear hb_
    go_wp2_with fail
    go_ret
    exact ⟨rfl, HS.out.low⟩
  · have q0 := cell_of_block (k := 0) (HS.out.blockAt 2 rfl) rfl
    go_wp2_with fail
    clear q0
    refine (HDR.out _ _ _ (HS.out.elems 1 rfl)).mono ?_
    rintro e w6 ⟨rfl, hb_⟩
    have HS := Lib.hid (HS.out.below hb_)
    clear hb_
    cases dr
    · obtain rfl : ok = true := by rw [← HOK.out]; rfl
      have hset := HM1.out.1 rfl
      have hsz := of_decide_eq_true HD.out.1
      have hdr : ∀ p ∈ l, drawnB p = true := fun p hp => by
        have := List.any_eq_false.1 HD.out.2 p hp
        simpa using this
      have HRS := Lib.hid (fun a cap w h => refSweep_any a m cap l HLM.out.1 (by have := HLM.out.2; omega) hdr size hsz.1 hsz.2 round w h)
      have HSET := Lib.hid hset
      clear hset hsz hdr HSZ HDR HD HOK
      have q0 := cell_of_block (k := 0) (HS.out.blockAt 2 rfl) rfl
      have q1 := cell_of_block (k := 1) (HS.out.blockAt 2 rfl) rfl
      go_wp2_with fail
      clear q0 q1
      refine (HRS.out _ _ _ (HS.out.elems 1 rfl)).mono ?_
      rintro e w7 ⟨M2, m1, hg⟩
      obtain rfl := HSET.out.unique m1
      obtain ⟨a7, c7, rfl, he_, hb_⟩ := hg.got encS_len
      rw [HM1.out.2.2.2] at he_
      rw [HM1.out.2.2.2]
      have HS := Lib.hid ((HS.out.below hb_).addRow he_)
      clear m1 hg he_ hb_ HRS HSET
      go_wp2_with fail
      refine (eqS_same _ _ M1 _ HM1.out.2.2.2 _ (HS.out.elems 1 rfl) (HS.out.elems 0 rfl) (by have := HM1.out.2.2.1; have := HM1.out.2.2.2; omega)).mono ?_
      rintro e w8 ⟨rfl, hb_⟩
      have HS := Lib.hid (HS.out.below hb_)
      clear hb_
      go_wp2_with fail
      refine (eqP_same _ _ l m HLM.out.1 _ (HS.out.elems 2 rfl) (HS.out.elems 4 rfl) (by have := HLM.out.2; omega)).mono ?_
      rintro e w9 ⟨rfl, hb_⟩
      have HS := Lib.hid (HS.out.below hb_)
      clear hb_
      go_wp2_with fail
      go_ret
      exact ⟨rfl, HS.out.low⟩
    · obtain rfl : ok = false := by rw [← HOK.out]; simp
      have hM0 : M1 = [] := HM1.out.2.1 rfl
      have hk0 : k1 = 0 := by rw [← HM1.out.2.2.2, hM0]; rfl
      subst hM0 hk0
      go_wp2_with fail
      refine (eqS_same _ _ [] 0 rfl _ (HS.out.elems 0 rfl) (elems_nil _)).mono ?_
      rintro e w6a ⟨rfl, hb_⟩
      have HS := Lib.hid (HS.out.below hb_)
      clear hb_
      go_wp2_with fail
      refine (eqP_same _ _ l m HLM.out.1 _ (HS.out.elems 1 rfl) (HS.out.elems 3 rfl) (by have := HLM.out.2; omega)).mono ?_
      rintro e w6b ⟨rfl, hb_⟩
      have HS := Lib.hid (HS.out.below hb_)
      clear hb_
      go_wp2_with fail
      go_ret
      exact ⟨rfl, HS.out.low⟩
end Go.Proofs.Ytflbcabjefpojaa
