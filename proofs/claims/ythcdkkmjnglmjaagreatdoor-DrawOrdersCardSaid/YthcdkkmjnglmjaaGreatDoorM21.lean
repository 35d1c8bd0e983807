/- Merged texts: Rev Dsp Dso. -/
import Derived.Test.YthcdkkmjnglmjaaGreatDoorM20
import Derived.Shelf.SlicesQ.Reverse
set_option linter.unusedSimpArgs false
set_option linter.unusedVariables false
/- slices.Reverse at a row of places; what lies beside it. -/
namespace Go.Proofs.YthcdkkmjnglmjaaGreatDoor
open Go.RowKit Go.Shelf
section
variable {α : Type} [Inhabited α] {P : Program} {ρ : Ren}
/-- A row turned about: nothing else is another. -/
theorem reverseRows (L : SlLaysE0.n35 P ρ) (k : Nat) (aE : ∀ w, (isAgg (ρ.t 23)).run P w = .ok true w) (zE : ∀ w, (Go.sizeOf (ρ.t 23)).run P w = .ok k w) (enc : α → List Value) (hk : ∀ x, (enc x).length = k) (h1 : ∀ x, ∀ v ∈ enc x, v.oneCell' = true)
 (sv : Value) (l : List α) (base : Nat) (w : World) (hrow : w.ownsRow base (ρ.t 23) k sv l.length (l.flatMap enc)) (hsz : l.length ≤ 1000000000) :
 Calls P (ρ.f 35) #[sv] w fun e w' => e = .returned (.tuple #[]) ∧ w'.ownsRow base (ρ.t 23) k sv l.length (l.reverse.flatMap enc) ∧ (w' = w ∨ ∃ g cap, sv = .slice (some ⟨g, 0, none⟩) l.length cap ∧ 0 < l.length ∧ w.grownBy w' (some g)) := by
 have hrow' := hrow
 obtain ⟨hlen, ⟨rfl, h0⟩ | ⟨b, cap, cur, rfl, hb, hblk, hcap, hmax, hcur, htake⟩⟩ := hrow
 · have e1 : l = [] := List.length_eq_zero_iff.1 h0
   subst e1
   refine (AnyQ.slices_Reverse_empty L none 0 w).mono ?_
   rintro e w' ⟨rfl, rfl⟩
   exact ⟨rfl, by simpa using hrow', .inl rfl⟩
 · by_cases hl0 : l.length = 0
   · have e1 : l = [] := List.length_eq_zero_iff.1 hl0
     subst e1
     refine (AnyQ.slices_Reverse_empty L (some ⟨b, 0, none⟩) cap w).mono ?_
     rintro e w' ⟨rfl, rfl⟩
     exact ⟨rfl, by simpa using hrow', .inl rfl⟩
   have hlt := b7t hblk
   have hH : Sort.HoldsK enc k w b 0 l.toArray := by
    intro j hj
    have hj' : j < l.length * k := by simpa using hj
    refine ⟨?_, f7b hblk _⟩
    refine c7b hblk ?_
    rw [Nat.zero_add]
    have h2 := flatK_get hk l j hj' _ htake
    rw [List.getElem?_take_of_lt hj'] at h2
    simpa using h2
   have hcon := AnyQ.slices_Reverse L k aE zE enc hk h1 b 0 cap l.toArray w hH (by simp; omega)
   simp only [List.size_toArray] at hcon
   refine hcon.mono ?_
   rintro e w' ⟨rfl, n, rfl⟩
   have er : l.toArray.reverse = l.reverse.toArray := by simp
   rw [er]
   generalize hs : l.reverse = s
   have hsl : s.length = l.length := by rw [← hs]; exact List.length_reverse
   have hgrow : ∀ j : Nat, (Sort.putRowK enc k (Sort.ahead w n) b 0 s.toArray).heap[j]? = (w.heap.modify b (Sort.onCells (Sort.putCells id 0 (Sort.flatK enc k s.toArray))))[j]? := fun j => rfl
   refine ⟨rfl, ⟨by rw [flat_length hk, hsl], .inr ⟨b, cap, Sort.putCells id 0 (Sort.flatK enc k s.toArray) cur, rfl, hb, ?_, hcap, hmax, by simp [Sort.putCells, hcur], ?_⟩⟩, .inr ⟨b, cap, rfl, by omega, rfl, rfl, rfl, ?_, fun j hj hne => ?_⟩⟩
   · rw [hgrow b, Array.getElem?_modify, if_pos rfl, hblk]
     rfl
   · apply List.ext_getElem?
     intro j
     by_cases hj : j < l.length * k
     · have h2 := flatK_get hk s j (by rw [hsl]; exact hj) _ rfl
       have h3 : l.length * k ≤ cur.size := by rw [hcur]; exact Nat.mul_le_mul_right k hcap
       rw [List.getElem?_take_of_lt hj, h2]
       simp only [Sort.putCells, Array.getElem?_toList, Array.getElem?_mapIdx]
       rw [Array.getElem?_eq_getElem (by omega)]
       simp [hsl, hj]
     · rw [List.getElem?_eq_none (by simp; omega), List.getElem?_eq_none (by rw [flat_length hk, hsl]; omega)]
   · show w.heap.size ≤ (w.heap.modify b (Sort.onCells (Sort.putCells id 0 (Sort.flatK enc k s.toArray)))).size
     simp
   · rw [hgrow j, Array.getElem?_modify, if_neg (fun e => hne (by rw [e]))]
end
theorem lay_revP : Go.Proofs.SlLaysE0.n35 Tryz.prog ⟨fun | 35 => 28 | n => n, fun | 22 => 39 | 23 => 26 | 4 => 4 | 3 => 3 | 0 => 0 | n => n, fun | n => n⟩ := {
 mixed := by kernel_rfl
 f35 := ⟨Tryz.f28.name, by decide, Tryz.func28.trans (congrArg some (by kernel_rfl))⟩
 t22 := Tryz.underlying39
 a22 := Tryz.isAgg39
 z22 := Tryz.sizeOf39
 v22 := Tryz.zeroValue39
 t4 := Tryz.underlying4
 a4 := Tryz.isAgg4
 z4 := Tryz.sizeOf4
 v4 := Tryz.zeroValue4
 t3 := Tryz.underlying3
 a3 := Tryz.isAgg3
 z3 := Tryz.sizeOf3
 v3 := Tryz.zeroValue3
 t0 := Tryz.underlying0
 a0 := Tryz.isAgg0
 z0 := Tryz.sizeOf0
 v0 := Tryz.zeroValue0 }
instance : Inhabited PtT := ⟨⟨0, 0⟩⟩
theorem revP_any (sv : Value) (l : List PtT) (base : Nat) (w : World) (hrow : w.ownsRow base 26 2 sv l.length (l.flatMap encP)) (hsz : l.length ≤ 1000000000) :
 Calls Tryz.prog 28 #[sv] w fun e w' => e = .returned (.tuple #[]) ∧ w'.ownsRow base 26 2 sv l.length (l.reverse.flatMap encP) ∧ (w' = w ∨ ∃ g cap, sv = .slice (some ⟨g, 0, none⟩) l.length cap ∧ 0 < l.length ∧ w.grownBy w' (some g)) :=
 reverseRows lay_revP 2 Tryz.isAgg26 Tryz.sizeOf26 encP encP_len encP_one sv l base w hrow hsz
theorem revP_n (sv : Value) (l : List PtT) (n : Nat) (hn : l.length = n) (base : Nat) (w : World) (hrow : w.ownsRow base 26 2 sv n (l.flatMap encP)) (hsz : n ≤ 1000000000) :
 Calls Tryz.prog 28 #[sv] w fun e w' => e = .returned (.tuple #[]) ∧ w'.ownsRow base 26 2 sv n (l.reverse.flatMap encP) ∧ (w' = w ∨ ∃ g cap, sv = .slice (some ⟨g, 0, none⟩) n cap ∧ 0 < n ∧ w.grownBy w' (some g)) := by
 subst hn
 exact revP_any sv l base w hrow hsz
theorem St.revd {w0 x y : World} {its : List It} {base n : Nat} {e : TypeId} {k : Nat} {xs : List Value} {sv : Value} (h : St w0 its x) (ht : ∀ i ∈ its, i.top ≤ base) (hlo : w0.heap.size ≤ base) (hr : x.ownsRow base e k sv n xs) (hw : y = x ∨ ∃ g cap, sv = .slice (some ⟨g, 0, none⟩) n cap ∧ 0 < n ∧ x.grownBy y (some g)) : St w0 its y := by
 rcases hw with rfl | ⟨g, cap, rfl, -, hg⟩
 · exact h
 · exact h.grown (base := base) (row := some g) (fun j e => by cases e; exact (ownsRow_block hr).1) hlo ht hg
/-- A canvas stays where a row of places is turned about. -/
theorem CanAt.revd {w w' : World} {p base n : Nat} {C : CanT} {sv : Value} {l : List PtT} (h : CanAt w p C) (hr : w.ownsRow base 26 2 sv n (l.flatMap encP)) (hn : l.length = n) (hw : w' = w ∨ ∃ g cap, sv = .slice (some ⟨g, 0, none⟩) n cap ∧ 0 < n ∧ w.grownBy w' (some g)) : CanAt w' p C := by
 rcases hw with rfl | ⟨g, cap, rfl, h0, hg⟩
 · exact h
 obtain ⟨ok, b, cap', qs, h1, h2, h3, h4, h5⟩ := h
 rcases hr.2 with ⟨e, -⟩ | ⟨g', cap2, cur, e, -, hblk, hle, -, hsz, htake⟩
 · cases e
 cases e
 have hq0 : 0 < qs.length := by rw [h3, ok.many]; exact Nat.mul_pos ok.wide.1 ok.high.1
 have hbg : b ≠ g := fun e => by
  subst e
  have k1 := h4 0 _ (List.getElem?_eq_getElem hq0)
  obtain ⟨x, l', rfl⟩ : ∃ x l', l = x :: l' := by
   cases l with
   | nil => simp at hn; omega
   | cons x l' => exact ⟨x, l', rfl⟩
  have k2 : cur[0]? = some (.int .i64 x.x) := by
   have k3 := congrArg (fun z => z[0]?) htake
   simp only [List.flatMap_cons] at k3
   rw [List.getElem?_take_of_lt (by omega)] at k3
   rw [← Array.getElem?_toList, k3]
   rfl
  have k4 := c7b hblk k2
  rw [k4] at k1
  cases k1
 refine ⟨ok, b, cap', qs, (hg.block p (b7t h1) (fun e => ?_)).trans h1, h2, h3, fun i q hq => ?_, fun i q t hq ht => (hg.block q (b7t (h5 i q t hq ht)) (fun e => ?_)).trans (h5 i q t hq ht)⟩
 · cases e
   rw [hblk] at h1
   cases h1
 · have h6 := h4 i q hq
   rw [← h6]
   exact World.cell?_of_block (hg.block b (cell_lt h6) (fun e => hbg (Option.some.inj e)))
 · cases e
   have h7 := h5 i _ t hq ht
   rw [hblk] at h7
   cases h7
end Go.Proofs.YthcdkkmjnglmjaaGreatDoor
/- gessolaw07.DrawSpans. -/
namespace Go.Proofs.YthcdkkmjnglmjaaGreatDoor
open Go.RowKit Go.Shelf
attribute [local go_sem] Oper.semAt_some
/- gessolaw07.DrawOrders. -/
theorem swM_rev (size : Int) (round : Bool) (L : List PtT) (p : PtT) : SwM size round L.reverse p ↔ SwM size round L p := by unfold SwM; simp
theorem swM_snoc {size : Int} {round : Bool} {M : List PtT} {c p : PtT} : (SwM size round M p ∨ SwM size round [c] p) ↔ SwM size round (M ++ [c]) p := by
 unfold SwM
 simp only [List.mem_append, List.mem_singleton]
 constructor
 · rintro (⟨x, h1, h2⟩ | ⟨x, h1, h2⟩)
   · exact ⟨x, .inl h1, h2⟩
   · exact ⟨x, .inr h1, h2⟩
 · rintro ⟨x, h1 | h1, h2⟩
   · exact .inl ⟨x, h1, h2⟩
   · exact .inr ⟨x, h1, h2⟩
theorem shown_none {C : CanT} (hC : okCan C) {Q : PtT → Prop} (f : ColT → ColT) (h : ∀ p, ¬ Q p) : Shown C Q f C := ⟨hC, rfl, rfl, fun x y _ _ h1 => absurd h1 (h _), fun x y _ _ _ => rfl⟩
set_option maxRecDepth 100000 in
set_option maxHeartbeats 4000000 in
theorem drawOrders_any (wide high : Int) (a : Option Addr) (cap : Nat) (us : List TileT) (hcol : ∀ t ∈ us, ∀ c ∈ t.1, okC c) (br : BrT) (hc : okC br.c) (a2 : Option Addr) (m cap2 : Nat) (L : List PtT) (hlen : L.length = m) (hcap2 : m ≤ cap2)
 (w : World) (hred : RedAt w) (he : Elems w (.slice a us.length cap) us.length 256 (rowC encT us)) (he2 : Elems w (.slice a2 m cap2) m 2 (rowC encP L)) :
 Calls Tryz.prog 5 #[.agg #[.int .i64 wide, .int .i64 high, .slice a us.length cap], br.val, .slice a2 m cap2] w (Gives (.bool true) w) := by
 have HS := H7 (St.start w)
 have HR := H7 hred
 have HOF := H7 (fun w' (hb : Below w.heap.size w w') => ofBothD wide high a cap us hcol w' (he.below hb))
 obtain ⟨ok, hok⟩ : ∃ ok, okE wide high us.length = ok := ⟨_, rfl⟩
 rw [hok] at HOF
 obtain ⟨n, hn⟩ : ∃ n, us.length = n := ⟨_, rfl⟩
 rw [hn] at HOF ⊢
 obtain ⟨k, hk⟩ : ∃ k, min m 6 = k := ⟨_, rfl⟩
 have hk2 : k ≤ m ∧ k ≤ 6 := by omega
 have het := Elems.take encP_len hlen he2 hk2.1
 have htl : (L.take k).length = k := by rw [List.length_take]; omega
 have e1 : min (m : Int) 6 = (k : Int) := by omega
 obtain ⟨LL, hLL⟩ : ∃ LL, L.take k = LL := ⟨_, rfl⟩
 rw [hLL] at het htl
 have hkc : k ≤ cap2 := by omega
 have HCL := H7 (fun w' (hb : Below w.heap.size w w') => cloneP_any (.slice a2 k cap2) LL w' (by rw [htl]; exact het.below hb) (by omega))
 have HL := H7 (And.intro htl hk2)
 have HC0 := H7 hc
 have HSTK := H7 (fun p C (cap : Nat) (M : List PtT) w' h1 (a : Option Addr) (n' : Nat) hn hM he => sStroke_any br hc p C a n' cap M hn hM w' h1 he)
 obtain ⟨⟨r, g, b, al⟩, size, round⟩ := br
 unfold BrT.val at HSTK ⊢
 simp only at HSTK ⊢
 clear hred he he2 het hok hn hk htl hLL hlen hc hcol
 go_enter Tryz.func5, Tryz.ntmps5
 repeat ((fail_if_success (with_reducible refine stop_at (id := 1) ?_)); (first | go_values | go_skip | go_guarded | go_step | go_upon | go_back | (simp only [Int.not_lt, Int.not_le] at *; go_simp) | (go_values <;> (try go_simp)) | (go_ite <;> go_prune <;> (try go_simp)) | (split <;> (first | (rename_i hx; exact (hx _ rfl).elim) | go_prune))))
 have hs_ := ((HS.out.alloc (.cells #[.int .i64 wide, .int .i64 high, .slice a n cap] 24)).alloc (.cells #[.int .u8 r, .int .u8 g, .int .u8 b, .int .u8 al, .int .i64 size, .bool round] 38))
 have hk_HR := HR.out.below (((B7 _ _).alloc (by exact Nat.le_refl _) (.cells #[.int .i64 wide, .int .i64 high, .slice a n cap] 24)).alloc (by simp only [World.size_alloc]; omega) (.cells #[.int .u8 r, .int .u8 g, .int .u8 b, .int .u8 al, .int .i64 size, .bool round] 38))
 obtain ⟨w1, hw_⟩ : ∃ w1 : World, ((w.alloc (.cells #[.int .i64 wide, .int .i64 high, .slice a n cap] 24)).alloc (.cells #[.int .u8 r, .int .u8 g, .int .u8 b, .int .u8 al, .int .i64 size, .bool round] 38)) = w1 := ⟨_, rfl⟩
 rw [hw_] at hs_ hk_HR
 try simp only [World.size_alloc] at hs_
 have HS := H7 hs_
 have HR := H7 hk_HR
 rw [hw_]
 clear hw_ hs_ hk_HR
 go_wp2_with fail
 refine (dWakes_any w1 HR.out).mono ?_
 rintro e w2 ⟨rfl, hb⟩
 have HS := H7 (HS.out.below hb)
 clear hb
 have z0 := h7c HS 1 0 rfl rfl
 have z1 := h7c HS 1 1 rfl rfl
 have z2 := h7c HS 1 2 rfl rfl
 go_wp2_with fail
 clear z0 z1 z2
 refine (HOF.out w2 HS.out.low).mono ?_
 rintro e w3 ⟨v, rfl, hb, hv1, hv2⟩
 have HS := H7 (HS.out.below hb)
 clear hb
 clear HOF
 cases ok with
 | false =>
  obtain rfl := hv2 rfl
  clear hv1 hv2
  simp only [errOf]
  go_wp2_with fail
  go_ret
  exact ⟨rfl, HS.out.low⟩
 | true =>
  obtain ⟨pc, rfl, hcan⟩ := hv1 rfl
  have HCP := H7 hcan
  clear hv1 hv2 hcan
  obtain ⟨C, hC⟩ : ∃ C, (⟨wide.toNat, high.toNat, us⟩ : CanT) = C := ⟨_, rfl⟩
  rw [hC] at HCP
  clear hC
  simp only [errOf]
  go_wp2_with fail
  refine (HCL.out w3 HS.out.low).mono ?_
  rintro e w4 ⟨v, rfl, hrow, -, hb⟩
  rw [HL.out.1] at hrow
  obtain ⟨ca, cc, rfl⟩ : ∃ ca cc, v = .slice ca k cc := by
   rcases hrow.2 with ⟨e, h0⟩ | ⟨g', c', cur, e, -⟩
   · exact ⟨none, 0, by rw [e, h0]⟩
   · exact ⟨_, _, e⟩
  have HROW := H7 hrow
  have HTOP := H7 HS.out.top
  have HLO := H7 HS.out.size
  have HS := H7 (HS.out.below hb)
  have HCP := H7 (HCP.out.below hb)
  clear hb
  clear hrow HCL e1 hkc
  have HE := H7 (show Elems w4 (.slice ca k cc) k 2 (rowC encP LL) by have h := HROW.out; rw [← HL.out.1] at h; have h2 := ownsRow_rows encP_len h; rw [HL.out.1] at h2; exact h2)
  have y0 := h7c HS 0 0 rfl rfl
  have y1 := h7c HS 0 1 rfl rfl
  have y2 := h7c HS 0 2 rfl rfl
  have y3 := h7c HS 0 3 rfl rfl
  have y4 := h7c HS 0 4 rfl rfl
  have y5 := h7c HS 0 5 rfl rfl
  go_wp2_with fail
  clear y0 y1 y2 y3 y4 y5
  refine (HSTK.out pc C cc LL w4 HCP.out ca k HL.out.1 (by have := HL.out; omega) HE.out).mono ?_
  intro e w5 h
  have hb := h.1
  have HS := H7 (HS.out.below hb)
  have HCP := H7 (HCP.out.below hb)
  clear hb
  have hrow5 := ownsRow_below HROW.out h.1
  cases hok : (sizeB size && !LL.any (fun p => !drawnB p)) with
  | false =>
   obtain rfl := h.2.2 hok
   clear h hok hrow5
   go_wp2_with fail
   go_ret
   exact ⟨rfl, HS.out.low⟩
  | true =>
   obtain ⟨d1, D1, rfl, hd, hsh⟩ := h.2.1 hok
   rw [Bool.and_eq_true] at hok
   have HOK := H7 hok
   have HD1 := H7 hd
   have HSH := H7 hsh
   have HROW := H7 hrow5
   clear h hok hd hsh hrow5 HE
   go_wp2_with fail
   refine (revP_n (.slice ca k cc) LL k HL.out.1 w3.heap.size w5 HROW.out (by have := HL.out; omega)).mono ?_
   rintro e w6 ⟨rfl, hrow6, hw6⟩
   have HS := H7 (HS.out.revd HTOP.out HLO.out HROW.out hw6)
   have HCP := H7 (HCP.out.revd HROW.out HL.out.1 hw6)
   have HD1 := H7 (HD1.out.revd HROW.out HL.out.1 hw6)
   obtain ⟨M, hM⟩ : ∃ M, LL.reverse = M := ⟨_, rfl⟩
   rw [hM] at hrow6
   have hml : M.length = k := by rw [← hM, List.length_reverse]; exact HL.out.1
   have hmok : (sizeB size && !M.any (fun p => !drawnB p)) = true := by rw [← hM, List.any_reverse, HOK.out.1, HOK.out.2]; rfl
   have HSWM := H7 (fun p => (show SwM size round M p ↔ SwM size round LL p by rw [← hM]; exact swM_rev size round LL p))
   have HM := H7 (And.intro hml hmok)
   have HE := H7 (show Elems w6 (.slice ca k cc) k 2 (rowC encP M) by rw [← hml] at hrow6; have h2 := ownsRow_rows encP_len hrow6; rw [hml] at h2; exact h2)
   clear hrow6 hw6 hM hml hmok HROW HTOP HLO
   have y0 := h7c HS 0 0 rfl rfl
   have y1 := h7c HS 0 1 rfl rfl
   have y2 := h7c HS 0 2 rfl rfl
   have y3 := h7c HS 0 3 rfl rfl
   have y4 := h7c HS 0 4 rfl rfl
   have y5 := h7c HS 0 5 rfl rfl
   go_wp2_with fail
   clear y0 y1 y2 y3 y4 y5
   refine (HSTK.out pc C cc M w6 HCP.out ca k HM.out.1 (by have := HL.out; omega) HE.out).mono ?_
   intro e w7 h
   obtain ⟨d2, D2, rfl, hd, hsh⟩ := h.2.1 HM.out.2
   have hb := h.1
   rw [(hsh.congr HSWM.out).unique HSH.out] at hd
   have HD2 := H7 hd
   have HS := H7 (HS.out.below hb)
   have HCP := H7 (HCP.out.below hb)
   have HD1 := H7 (HD1.out.below hb)
   have HE := H7 (HE.out.below hb)
   clear hb
   clear h hd hsh
   go_wp2_with fail
   have HLW := H7 (LowAt.mk (B7 w7.heap.size w7))
   have HC1 := H7 (shown_none HCP.out.ok (fpaint ⟨r, g, b, al⟩) (Q := SwM size round (M.take 0)) (fun p h => by obtain ⟨x, hx, -⟩ := h; simp at hx))
   go_loopw [12, 61] (fun v i wr => ∃ (j d : Nat) (D : CanT), j ≤ k ∧ v = .pointer (some ⟨d, 0, none⟩) ∧ i = .int .i64 (j : Int) ∧ CanAt wr d D ∧ Shown C (SwM size round (M.take j)) (fpaint ⟨r, g, b, al⟩) D ∧ LowAt w7 wr) (fun _ i _ => k - (intOf i).toNat)
   case atStart => exact ⟨0, pc, C, by omega, rfl, rfl, HCP.out, HC1.out, HLW.out⟩
   case round =>
    obtain ⟨j, d, D, hj, rfl, rfl, hd, hsh, hg⟩ := hrel
    clear HLW HC1
    have HD := H7 hd
    have HSD := H7 hsh
    have HG := H7 hg
    clear hd hsh hg
    by_cases hlt : j < k
    · have HJ := H7 hlt
      have HE1 := H7 (wrapS (n := j) (by have := HL.out; omega))
      obtain ⟨q, hx⟩ : ∃ q, M[j]? = some q := ⟨_, List.getElem?_eq_getElem (by rw [HM.out.1]; exact hlt)⟩
      obtain ⟨bb, off, rfl, hbb, g0, g1⟩ := ptCells HM.out.1 HE.out j q hx
      have HTK := H7 (show M.take (j + 1) = M.take j ++ [q] by rw [List.take_add_one, hx]; rfl)
      have hqd : (sizeB size && ![q].any (fun p => !drawnB p)) = true := by
       have h1 := Bool.and_eq_true_iff.1 HM.out.2
       have h3 : M.any (fun p => !drawnB p) = false := by simpa using h1.2
       have h2 := List.any_eq_false.1 h3 q (List.mem_of_getElem? hx)
       rw [h1.1]
       simpa using h2
      have HQD := H7 hqd
      have g0' := (HG.out.low.cell (p := ⟨bb, off + j * 2, none⟩) hbb).trans g0
      have g1' := (HG.out.low.cell (p := ⟨bb, off + j * 2 + 1, none⟩) hbb).trans g1
      have HS := H7 (HS.out.below HG.out.low)
      clear g0 g1 hx hbb hqd hj
      obtain ⟨qx, qy⟩ := q
      simp only at g0' g1'
      repeat ((fail_if_success (with_reducible refine stop_at (id := 16) ?_)); (first | go_values | go_skip | go_guarded | go_step | go_upon | go_back | (simp only [Int.not_lt, Int.not_le] at *; go_simp) | (go_values <;> (try go_simp)) | (go_ite <;> go_prune <;> (try go_simp)) | (split <;> (first | (rename_i hx; exact (hx _ rfl).elim) | go_prune))))
      clear g0' g1' hlt
      have hs_ := (HS.out.alloc (.cells #[.int .i64 qx, .int .i64 qy] 26))
      have hk_HG := HG.out.below ((B7 _ _).alloc (by exact Nat.le_refl _) (.cells #[.int .i64 qx, .int .i64 qy] 26))
      have hk_HD := HD.out.below ((B7 _ _).alloc (by exact Nat.le_refl _) (.cells #[.int .i64 qx, .int .i64 qy] 26))
      obtain ⟨w8, hw_⟩ : ∃ w8 : World, (wr.alloc (.cells #[.int .i64 qx, .int .i64 qy] 26)) = w8 := ⟨_, rfl⟩
      rw [hw_] at hs_ hk_HG hk_HD
      try simp only [World.size_alloc] at hs_
      have HS := H7 hs_
      have HG := H7 hk_HG
      have HD := H7 hk_HD
      rw [hw_]
      clear hw_ hs_ hk_HG hk_HD
      have y0 := h7c HS 1 0 rfl rfl
      have y1 := h7c HS 1 1 rfl rfl
      have y2 := h7c HS 1 2 rfl rfl
      have y3 := h7c HS 1 3 rfl rfl
      have y4 := h7c HS 1 4 rfl rfl
      have y5 := h7c HS 1 5 rfl rfl
      have c0 := h7c HS 0 0 rfl rfl
      have c1 := h7c HS 0 1 rfl rfl
      go_wp2_with fail
      clear y0 y1 y2 y3 y4 y5
      clear c0 c1
      have hs_ := (HS.out.alloc (.cells #[.int .i64 qx, .int .i64 qy] 26))
      have hk_HG := HG.out.below ((B7 _ _).alloc (by exact Nat.le_refl _) (.cells #[.int .i64 qx, .int .i64 qy] 26))
      have hk_HD := HD.out.below ((B7 _ _).alloc (by exact Nat.le_refl _) (.cells #[.int .i64 qx, .int .i64 qy] 26))
      obtain ⟨w9, hw_⟩ : ∃ w9 : World, (w8.alloc (.cells #[.int .i64 qx, .int .i64 qy] 26)) = w9 := ⟨_, rfl⟩
      rw [hw_] at hs_ hk_HG hk_HD
      try simp only [World.size_alloc] at hs_
      have HS := H7 hs_
      have HG := H7 hk_HG
      have HD := H7 hk_HD
      rw [hw_]
      clear hw_ hs_ hk_HG hk_HD
      refine (HSTK.out d D 1 [⟨qx, qy⟩] w9 HD.out (some ⟨w8.heap.size, 0, none⟩) 1 rfl (by decide) (.inr ⟨w8.heap.size, 0, 1, rfl, HS.out.lt 0 rfl, fun z hz => ?_⟩)).mono ?_
      · match z, hz with
        | 0, _ => exact h7c HS 0 0 rfl rfl
        | 1, _ => exact h7c HS 0 1 rfl rfl
      intro e w10 h
      obtain ⟨d5, D5, rfl, hd, hsh⟩ := h.2.1 HQD.out
      have hb := h.1
      have hsn := (HSD.out.more hsh).congr (fun p => swM_snoc)
      rw [← HTK.out] at hsn
      have HD5 := H7 hd
      have HS5 := H7 hsn
      have HS := H7 (HS.out.below hb)
      have HG := H7 (HG.out.below hb)
      clear hb
      clear h hd hsh hsn
      go_wp2_with fail
      go_roundw
      case rel => exact ⟨j + 1, d5, D5, HJ.out, rfl, by first | exact congrArg (Value.int .i64) HE1.out | exact congrArg (Value.int .i64) (Int.natCast_succ j).symm | (congr 1; omega), HD5.out, HS5.out, HG.out⟩
      case measure => (try rw [HE1.out]); have := HJ.out; simp only [intOf]; omega
    · have hjk : j = k := by omega
      have htk : M.take j = M := by rw [hjk, ← HM.out.1, List.take_length]
      have hsd := HSD.out
      rw [htk] at hsd
      obtain rfl : D1 = D := HSH.out.unique (hsd.congr HSWM.out)
      have HD1 := H7 (HD1.out.below HG.out.low)
      have HD2 := H7 (HD2.out.below HG.out.low)
      have HS := H7 (HS.out.below HG.out.low)
      clear hsd htk hjk hj
      go_wp2_with fail
      refine (same_eq _ d2 d1 _ HD2.out HD1.out).mono ?_
      rintro e w8 ⟨rfl, hb⟩
      have HS := H7 (HS.out.below hb)
      have HD1 := H7 (HD1.out.below hb)
      have HD := H7 (HD.out.below hb)
      clear hb
      go_wp2_with fail
      refine (same_eq _ d d1 _ HD.out HD1.out).mono ?_
      rintro e w9 ⟨rfl, hb⟩
      have HS := H7 (HS.out.below hb)
      clear hb
      go_wp2_with fail
      go_ret
      exact ⟨rfl, HS.out.low⟩
end Go.Proofs.YthcdkkmjnglmjaaGreatDoor
