/- ShapeClips: the walk. -/
import Derived.Test.YtflbcabjefpojaaClipL
namespace Go.Proofs.Ytflbcabjefpojaa
set_option linter.unusedSimpArgs false
set_option linter.unusedVariables false
open Go.RowKit Go.Shelf

theorem sweepTwo (a : Option Addr) (cap : Nat) (c : PtT) (size : Int) (round : Bool) (w : World) (h : Elems w (.slice a 2 cap) 2 2 (rowC encP [c, c])) :
    Calls Try.prog 11 #[.slice a 2 cap, .int .i64 size, .bool round] w (GivesSet (sizeB size && drawnB c) (SwM size round [c]) 2 w) :=
  (shSweep_any a 2 cap [c, c] rfl (by decide) size round w h).mono fun _ _ h => by
    obtain ⟨M, h1, h2, h3, h4⟩ := h
    have e : (sizeB size && !([c, c].any fun p => !drawnB p)) = (sizeB size && drawnB c) := by simp
    rw [e] at h1 h2 h4
    exact ⟨M, fun h => (h1 h).congr fun p => swm_twice, h2, h3, h4⟩

theorem setEq {ok : Bool} {P : PtT → Prop} {M N : List SpT} (h1 : ok = true → SetRow P M) (h2 : ok = false → M = []) (h3 : ok = true → SetRow P N) (h4 : ok = false → N = []) : M = N := by
  cases ok
  · rw [h2 rfl, h4 rfl]
  · exact (h1 rfl).unique (h3 rfl)

set_option maxRecDepth 100000 in
set_option maxHeartbeats 4000000 in
theorem clips_any (a : Option Addr) (n cap : Nat) (x : List SpT) (hl : x.length = n) (hc : n ≤ cap) (hc2 : cap ≤ 9223372036854775807) (b c : BxT) (size : Int) (round : Bool) (w : World) (h : Elems w (.slice a n cap) n 3 (rowC encS x)) :
    Calls Try.prog 4 #[.slice a n cap, .agg #[.int .i64 b.x, .int .i64 b.y, .int .i64 b.x2, .int .i64 b.y2, .int .i64 c.x, .int .i64 c.y, .int .i64 c.x2, .int .i64 c.y2], .agg #[.int .i64 size, .bool round]] w (Gives (.bool true) w) := by
  have HF := Lib.hid (few_any a n cap x hl hc hc2)
  obtain ⟨m, hm⟩ : ∃ m, min n 40 = m := ⟨_, rfl⟩
  obtain ⟨l, hll⟩ : ∃ l, x.take 40 = l := ⟨_, rfl⟩
  rw [hm, hll] at HF
  have hlm : l.length = m := by rw [← hll, List.length_take]; omega
  have hm40 : m ≤ 40 := by omega
  have HLM := Lib.hid (And.intro hlm hm40)
  have HS := Lib.hid ((St.start w).addRow h)
  clear hm hll hlm hm40 h hl hc hc2
  go_enter Try.func4, Try.ntmps4
  repeat ((fail_if_success (with_reducible refine stop_at (id := 1) ?_)); (first | go_values | go_skip | go_guarded | go_step | go_upon | go_back | (simp only [Int.not_lt, Int.not_le] at *; go_simp) | (go_values <;> (try go_simp)) | (go_ite <;> go_prune <;> (try go_simp)) | (split <;> (first | (rename_i hx; exact (hx _ rfl).elim) | go_prune))))
  have hs_ := ((HS.out.alloc (.cells #[.int .i64 b.x, .int .i64 b.y, .int .i64 b.x2, .int .i64 b.y2, .int .i64 c.x, .int .i64 c.y, .int .i64 c.x2, .int .i64 c.y2] 44)).alloc (.cells #[.int .i64 size, .bool round] 24))
  obtain ⟨w1, hw_⟩ : ∃ w1 : World, ((w.alloc (.cells #[.int .i64 b.x, .int .i64 b.y, .int .i64 b.x2, .int .i64 b.y2, .int .i64 c.x, .int .i64 c.y, .int .i64 c.x2, .int .i64 c.y2] 44)).alloc (.cells #[.int .i64 size, .bool round] 24)) = w1 := ⟨_, rfl⟩
  rw [hw_] at hs_
  try simp only [World.size_alloc] at hs_
  have HS := Lib.hid hs_
  rw [hw_]
  clear hw_ hs_
  go_wp2_with fail
  refine (wakes_any _).mono ?_
  rintro e w2 ⟨rfl, hb_⟩
  have HS := Lib.hid (HS.out.below hb_)
  clear hb_
  go_wp2_with fail
  refine (HF.out w2 (HS.out.elems 2 rfl)).mono ?_
  rintro e w3 ⟨-, a3, c3, rfl, hc3, he_, hb_⟩
  have HS := Lib.hid ((HS.out.below hb_).addRow he_)
  clear hb_ he_
  clear HF
  have q0 := cell_of_block (k := 0) (HS.out.blockAt 2 rfl) rfl
  have q1 := cell_of_block (k := 1) (HS.out.blockAt 2 rfl) rfl
  have q2 := cell_of_block (k := 2) (HS.out.blockAt 2 rfl) rfl
  have q3 := cell_of_block (k := 3) (HS.out.blockAt 2 rfl) rfl
  cases hr : rightB l
  · have HR := Lib.hid hr
    clear hr
    go_wp2_with fail
    clear q0 q1 q2 q3
    refine (clipBad a3 m c3 l HLM.out.1 (by have := HLM.out.2; omega) HR.out b _ (HS.out.elems 0 rfl)).mono ?_
    rintro e w4 ⟨-, a4, c4, rfl, he_, hb_⟩
    have HS := Lib.hid ((HS.out.below hb_).addRow he_)
    clear hb_ he_
    go_wp2_with fail
    have HCH := Lib.hid (check_any a3 m c3 l HLM.out.1 (by have := HLM.out.2; omega) w4 (HS.out.elems 1 rfl))
    rw [HR.out] at HCH
    refine (HCH.out).mono ?_
    rintro e w5 ⟨rfl, hb_⟩
    have HS := Lib.hid (HS.out.below hb_)
    clear hb_
    go_wp2_with fail
    go_ret
    exact ⟨rfl, HS.out.low⟩
  · have HR := Lib.hid hr
    clear hr
    have LB := Lib.hid (clipL_len b l l.length)
    have LC := Lib.hid (clipL_len c l l.length)
    obtain ⟨one, h1⟩ : ∃ one, clipL b l = one := ⟨_, rfl⟩
    obtain ⟨oth, h2⟩ : ∃ oth, clipL c l = oth := ⟨_, rfl⟩
    obtain ⟨n1, hn1⟩ : ∃ n1, one.length = n1 := ⟨_, rfl⟩
    obtain ⟨n2, hn2⟩ : ∃ n2, oth.length = n2 := ⟨_, rfl⟩
    have HN1 := Lib.hid (show one.length = n1 ∧ n1 ≤ 40 by
      refine ⟨hn1, ?_⟩
      have := LB.out
      rw [List.take_length, h1, hn1] at this
      have := HLM.out
      omega)
    have HN2 := Lib.hid (show oth.length = n2 ∧ n2 ≤ 40 by
      refine ⟨hn2, ?_⟩
      have := LC.out
      rw [List.take_length, h2, hn2] at this
      have := HLM.out
      omega)
    have HR1 := Lib.hid (show rightB one = true by rw [← h1]; exact rightB_clip HR.out b)
    have HR2 := Lib.hid (show rightB oth = true by rw [← h2]; exact rightB_clip HR.out c)
    have HSW := Lib.hid (show clipL c one = clipL b oth by rw [← h1, ← h2]; exact clip_swap b c l)
    have HAG := Lib.hid (show clipL b one = one by rw [← h1]; exact clip_again b l)
    have HC1 := Lib.hid (fun w h => clipGot a3 m c3 l HLM.out.1 (by have := HLM.out.2; omega) HR.out b w h)
    have HC2 := Lib.hid (fun w h => clipGot a3 m c3 l HLM.out.1 (by have := HLM.out.2; omega) HR.out c w h)
    rw [h1, hn1] at HC1
    rw [h2, hn2] at HC2
    obtain ⟨two, h3⟩ : ∃ two, clipL b oth = two := ⟨_, rfl⟩
    obtain ⟨n3, hn3⟩ : ∃ n3, two.length = n3 := ⟨_, rfl⟩
    have HN3 := Lib.hid (show two.length = n3 ∧ n3 ≤ 40 by
      refine ⟨hn3, ?_⟩
      have := clipL_len b oth oth.length
      rw [List.take_length, h3, hn3] at this
      have := HN2.out
      omega)
    have HC3 := Lib.hid (fun a cap w h => clipGot a n1 cap one HN1.out.1 (by have := HN1.out.2; omega) HR1.out c w h)
    have HC4 := Lib.hid (fun a cap w h => clipGot a n2 cap oth HN2.out.1 (by have := HN2.out.2; omega) HR2.out b w h)
    have HC5 := Lib.hid (fun a cap w h => clipGot a n1 cap one HN1.out.1 (by have := HN1.out.2; omega) HR1.out b w h)
    rw [HSW.out, h3, hn3] at HC3
    rw [h3, hn3] at HC4
    rw [HAG.out, hn1] at HC5
    clear h1 h2 h3 hn1 hn2 hn3 LB LC
    go_wp2_with fail
    clear q0 q1 q2 q3
    refine (HC1.out _ (HS.out.elems 0 rfl)).mono ?_
    rintro e w4 ⟨-, a4, c4, rfl, he_, hb_⟩
    have HS := Lib.hid ((HS.out.below hb_).addRow he_)
    clear hb_ he_
    have q0 := cell_of_block (k := 4) (HS.out.blockAt 3 rfl) rfl
    have q1 := cell_of_block (k := 5) (HS.out.blockAt 3 rfl) rfl
    have q2 := cell_of_block (k := 6) (HS.out.blockAt 3 rfl) rfl
    have q3 := cell_of_block (k := 7) (HS.out.blockAt 3 rfl) rfl
    go_wp2_with fail
    clear q0 q1 q2 q3
    refine (HC3.out _ _ _ (HS.out.elems 0 rfl)).mono ?_
    rintro e w5 ⟨-, a5, c5, rfl, he_, hb_⟩
    have HS := Lib.hid ((HS.out.below hb_).addRow he_)
    clear hb_ he_
    have q0 := cell_of_block (k := 4) (HS.out.blockAt 4 rfl) rfl
    have q1 := cell_of_block (k := 5) (HS.out.blockAt 4 rfl) rfl
    have q2 := cell_of_block (k := 6) (HS.out.blockAt 4 rfl) rfl
    have q3 := cell_of_block (k := 7) (HS.out.blockAt 4 rfl) rfl
    go_wp2_with fail
    clear q0 q1 q2 q3
    refine (HC2.out _ (HS.out.elems 2 rfl)).mono ?_
    rintro e w6 ⟨-, a6, c6, rfl, he_, hb_⟩
    have HS := Lib.hid ((HS.out.below hb_).addRow he_)
    clear hb_ he_
    have q0 := cell_of_block (k := 0) (HS.out.blockAt 5 rfl) rfl
    have q1 := cell_of_block (k := 1) (HS.out.blockAt 5 rfl) rfl
    have q2 := cell_of_block (k := 2) (HS.out.blockAt 5 rfl) rfl
    have q3 := cell_of_block (k := 3) (HS.out.blockAt 5 rfl) rfl
    go_wp2_with fail
    clear q0 q1 q2 q3
    refine (HC4.out _ _ _ (HS.out.elems 0 rfl)).mono ?_
    rintro e w7 ⟨-, a7, c7, rfl, he_, hb_⟩
    have HS := Lib.hid ((HS.out.below hb_).addRow he_)
    clear hb_ he_
    have q0 := cell_of_block (k := 0) (HS.out.blockAt 6 rfl) rfl
    have q1 := cell_of_block (k := 1) (HS.out.blockAt 6 rfl) rfl
    have q2 := cell_of_block (k := 2) (HS.out.blockAt 6 rfl) rfl
    have q3 := cell_of_block (k := 3) (HS.out.blockAt 6 rfl) rfl
    go_wp2_with fail
    clear q0 q1 q2 q3
    refine (HC5.out _ _ _ (HS.out.elems 3 rfl)).mono ?_
    rintro e w8 ⟨-, a8, c8, rfl, he_, hb_⟩
    have HS := Lib.hid ((HS.out.below hb_).addRow he_)
    clear hb_ he_
    go_wp2_with fail
    refine (eqS_same _ _ two n3 HN3.out.1 _ (HS.out.elems 3 rfl) (HS.out.elems 1 rfl) (by have := HN3.out.2; omega)).mono ?_
    rintro e w9 ⟨rfl, hb_⟩
    have HS := Lib.hid (HS.out.below hb_)
    clear hb_
    go_wp2_with fail
    refine (eqS_same _ _ one n1 HN1.out.1 _ (HS.out.elems 0 rfl) (HS.out.elems 4 rfl) (by have := HN1.out.2; omega)).mono ?_
    rintro e w10 ⟨rfl, hb_⟩
    have HS := Lib.hid (HS.out.below hb_)
    clear hb_
    have q0 := cell_of_block (k := 0) (HS.out.blockAt 7 rfl) rfl
    have q1 := cell_of_block (k := 1) (HS.out.blockAt 7 rfl) rfl
    have r0 := cell_of_block (k := 0) (HS.out.blockAt 6 rfl) rfl
    have r1 := cell_of_block (k := 1) (HS.out.blockAt 6 rfl) rfl
    have t0 := HS.out.lt 6 rfl
    obtain ⟨ok, hok⟩ : ∃ ok, (sizeB size && drawnB ⟨b.x, b.y⟩) = ok := ⟨_, rfl⟩
    have HSP := Lib.hid (fun a cap w h => sweepTwo a cap ⟨b.x, b.y⟩ size round w h)
    have HSQ := Lib.hid (fun w => shSquare_any ⟨b.x, b.y⟩ size w)
    have HDI := Lib.hid (fun w => shDisc_any ⟨b.x, b.y⟩ size w)
    rw [hok] at HSP
    simp only [hok] at HSQ HDI
    clear hok HC1 HC2 HC3 HC4 HC5 HSW HAG
    repeat ((fail_if_success (with_reducible refine stop_at (id := 14) ?_)); (first | go_values | go_skip | go_guarded | go_step | go_upon | go_back | (simp only [Int.not_lt, Int.not_le] at *; go_simp) | (go_values <;> (try go_simp)) | (go_ite <;> go_prune <;> (try go_simp)) | (split <;> (first | (rename_i hx; exact (hx _ rfl).elim) | go_prune))))
    clear q0 q1 r0 r1 t0
    have hs_ := (HS.out.alloc (.cells #[.int .i64 b.x, .int .i64 b.y] 28))
    obtain ⟨w10b, hw_⟩ : ∃ w10b : World, (w10.alloc (.cells #[.int .i64 b.x, .int .i64 b.y] 28)) = w10b := ⟨_, rfl⟩
    rw [hw_] at hs_
    try simp only [World.size_alloc] at hs_
    have HS := Lib.hid hs_
    rw [hw_]
    clear hw_ hs_
    have q0 := cell_of_block (k := 0) (HS.out.blockAt 0 rfl) rfl
    have q1 := cell_of_block (k := 1) (HS.out.blockAt 0 rfl) rfl
    have r0 := cell_of_block (v := .int .i64 size) (k := 0) ((HS.out.alloc (.cells #[.int .i64 b.x, .int .i64 b.y, .int .i64 b.x, .int .i64 b.y] 28)).blockAt 8 rfl) rfl
    have r1 := cell_of_block (v := .bool round) (k := 1) ((HS.out.alloc (.cells #[.int .i64 b.x, .int .i64 b.y, .int .i64 b.x, .int .i64 b.y] 28)).blockAt 8 rfl) rfl
    go_wp2_with fail
    clear q0 q1 r0 r1
    have hs_ := (HS.out.alloc (.cells #[.int .i64 b.x, .int .i64 b.y, .int .i64 b.x, .int .i64 b.y] 28))
    obtain ⟨w11, hw_⟩ : ∃ w11 : World, (w10b.alloc (.cells #[.int .i64 b.x, .int .i64 b.y, .int .i64 b.x, .int .i64 b.y] 28)) = w11 := ⟨_, rfl⟩
    rw [hw_] at hs_
    try simp only [World.size_alloc] at hs_
    have HS := Lib.hid hs_
    rw [hw_]
    clear hw_ hs_
    refine (HSP.out _ _ _ (Elems.ofBlock (HS.out.blockAt 0 rfl) _ _ _ rfl rfl)).mono ?_
    rintro e w12 hg
    obtain ⟨M1, m1, m2, m3, -, a9, c9, rfl, he_, hb_⟩ := hg.got
    clear hg
    obtain ⟨k1, hk1⟩ : ∃ k1, M1.length = k1 := ⟨_, rfl⟩
    rw [hk1] at m3 he_
    rw [hk1]
    have HM1 := Lib.hid (And.intro m1 (And.intro m2 (And.intro m3 hk1)))
    have HS := Lib.hid ((HS.out.below hb_).addRow he_)
    clear m1 m2 m3 he_ hb_ hk1 HSP
    have q0 := cell_of_block (k := 0) (HS.out.blockAt 2 rfl) rfl
    have q1 := cell_of_block (k := 1) (HS.out.blockAt 2 rfl) rfl
    have r0 := cell_of_block (k := 0) (HS.out.blockAt 9 rfl) rfl
    go_wp2_with fail
    clear q0 q1 r0
    refine (HSQ.out _).mono ?_
    rintro e w13 hg
    obtain ⟨M2, m1, m2, m3, -, a10, c10, rfl, he_, hb_⟩ := hg.got
    clear hg
    obtain ⟨k2, hk2⟩ : ∃ k2, M2.length = k2 := ⟨_, rfl⟩
    rw [hk2] at m3 he_
    rw [hk2]
    have HM2 := Lib.hid (And.intro m1 (And.intro m2 (And.intro m3 hk2)))
    have HS := Lib.hid ((HS.out.below hb_).addRow he_)
    clear m1 m2 m3 he_ hb_ hk2 HSQ
    have r1 := cell_of_block (k := 1) (HS.out.blockAt 10 rfl) rfl
    cases round
    · have HEQ := Lib.hid (setEq HM1.out.1 HM1.out.2.1 HM2.out.1 HM2.out.2.1)
      have HK : k2 = k1 := by rw [← HM1.out.2.2.2, ← HM2.out.2.2.2, HEQ.out]
      subst HK
      go_wp2_with fail
      clear r1
      have hE := HS.out.elems 0 rfl
      rw [← HEQ.out] at hE
      refine (eqS_same _ _ M1 _ HM1.out.2.2.2 _ (HS.out.elems 1 rfl) hE (Nat.le_trans HM1.out.2.2.1 (by decide))).mono ?_
      rintro e w14 ⟨rfl, hb_⟩
      have HS := Lib.hid (HS.out.below hb_)
      clear hb_
      clear hE
      go_wp2_with fail
      go_ret
      exact ⟨rfl, HS.out.low⟩
    · have q0 := cell_of_block (k := 0) (HS.out.blockAt 3 rfl) rfl
      have q1 := cell_of_block (k := 1) (HS.out.blockAt 3 rfl) rfl
      have r0 := cell_of_block (k := 0) (HS.out.blockAt 10 rfl) rfl
      go_wp2_with fail
      clear q0 q1 r0 r1
      refine (HDI.out _).mono ?_
      rintro e w14 hg
      obtain ⟨M3, m1, m2, m3, -, a11, c11, rfl, he_, hb_⟩ := hg.got
      clear hg
      obtain ⟨k3, hk3⟩ : ∃ k3, M3.length = k3 := ⟨_, rfl⟩
      rw [hk3] at m3 he_
      rw [hk3]
      have HM3 := Lib.hid (And.intro m1 (And.intro m2 (And.intro m3 hk3)))
      have HS := Lib.hid ((HS.out.below hb_).addRow he_)
      clear m1 m2 m3 he_ hb_ hk3 HDI
      have HEQ := Lib.hid (setEq HM1.out.1 HM1.out.2.1 HM3.out.1 HM3.out.2.1)
      have HK : k3 = k1 := by rw [← HM1.out.2.2.2, ← HM3.out.2.2.2, HEQ.out]
      subst HK
      go_wp2_with fail
      have hE := HS.out.elems 0 rfl
      rw [← HEQ.out] at hE
      refine (eqS_same _ _ M1 _ HM1.out.2.2.2 _ (HS.out.elems 2 rfl) hE (Nat.le_trans HM1.out.2.2.1 (by decide))).mono ?_
      rintro e w15 ⟨rfl, hb_⟩
      have HS := Lib.hid (HS.out.below hb_)
      clear hb_
      clear hE
      go_wp2_with fail
      go_ret
      exact ⟨rfl, HS.out.low⟩
end Go.Proofs.Ytflbcabjefpojaa
