/- The walk of the law NatDivisors. -/
import Derived.Test.YthjbkadhgcjnaaaNatGcd
import Derived.Test.YthjbkadhgcjnaaaNatGcdBad
import Derived.Test.YthjbkadhgcjnaaaNatFew
import Derived.Test.YthjbkadhgcjnaaaNatLawDivides
set_option linter.unusedVariables false
namespace Go.Proofs.Ythjbkadhgcjnaaa
open Go.RowKit

theorem gcd_to {D E : Option Addr} {n m c c' x y z : Nat} {w : World} (hn : n ≤ 64) (hm : m ≤ 64) (hnx : n = L32 x) (hmy : m = L32 y) (hx : Cells w D n (Lm (d32 x))) (hy : Cells w E m (Lm (d32 y))) (hz : Nat.gcd x y = z) :
    Calls Try.prog 39 #[.agg #[.slice D n c], .agg #[.slice E m c']] w fun e w' => ∃ D c, e = .returned (.tuple #[.agg #[.slice D (L32 z) c], .int .i64 0]) ∧ L32 z ≤ c ∧ Cells w' D (L32 z) (Lm (d32 z)) ∧ Below w.heap.size w w' := by
  subst hz
  exact res_sub (gcd_any hn hm hnx hmy hx hy)
theorem refGcd_to {D E : Option Addr} {n m c c' x y z : Nat} {w : World} (hn : n ≤ 64) (hm : m ≤ 64) (hnx : n = L32 x) (hmy : m = L32 y) (hx : Cells w D n (Lm (d32 x))) (hy : Cells w E m (Lm (d32 y))) (hz : Nat.gcd x y = z) :
    Calls Try.prog 40 #[.agg #[.slice D n c], .agg #[.slice E m c']] w fun e w' => ∃ D c, e = .returned (.tuple #[.agg #[.slice D (L32 z) c], .int .i64 0]) ∧ L32 z ≤ c ∧ Cells w' D (L32 z) (Lm (d32 z)) ∧ Below w.heap.size w w' := by
  subst hz
  exact res_sub (refGCD_any hn hm hnx hmy hx hy)
set_option maxHeartbeats 1000000 in
set_option maxRecDepth 100000 in
theorem common_any (w : World) : Calls Try.prog 38 #[] w fun e w' => e = .returned (.bool true) ∧ Below w.heap.size w w' := by
  have hl2 := Lib.hid (L32_one (k := 2) (by omega) (by omega))
  go_enter Try.func38, Try.ntmps38
  go_wp2_with fail
  refine (one_any 4 4 rfl (by omega) (by omega) _).mono ?_
  rintro e w1 ⟨D1, rfl, hc1, hb1⟩
  go_wp2_with fail
  refine (one_any 6 6 rfl (by omega) (by omega) _).mono ?_
  rintro e w2 ⟨D2, rfl, hc2, hb2⟩
  have HB2 := Lib.hid (Below.on hb1 hb2)
  have HC1 := Lib.hid (hc1.below hb2)
  have HC2 := Lib.hid hc2
  clear hb1 hb2 hc1 hc2
  go_wp2_with fail
  refine (gcd_to (x := 4) (y := 6) (z := 2) (by omega) (by omega) (L32_one (by omega) (by omega)).symm (L32_one (by omega) (by omega)).symm HC1.out HC2.out (by decide)).mono ?_
  rintro e w3 ⟨D3, c3, rfl, hl3, hc3, hb3⟩
  rw [hl2.out] at hc3 ⊢
  have HB3 := Lib.hid (bl_alloc' (Below.on HB2.out hb3) (.cells #[.slice D3 1 c3] 24))
  have HC3 := Lib.hid (hc3.alloc (.cells #[.slice D3 1 c3] 24))
  clear hb3 hc3 hl3
  go_wp2_with fail
  refine (is_yes 2 2 rfl (by omega) HC3.out).mono ?_
  rintro e w5 ⟨rfl, hb5⟩
  have HB5 := Lib.hid (Below.on HB3.out hb5)
  clear hb5
  go_wp2
  go_ret
  exact ⟨rfl, HB5.out⟩
set_option maxHeartbeats 4000000 in
set_option maxRecDepth 100000 in
theorem natDivisors_walk (W : World) {D E : Option Addr} {n c m c' : Nat} {f g : Nat → Nat} (hnc : n ≤ c) (hc : c ≤ maxLen) (hD : Cells W D n (Lm f)) (hf : ∀ j, j < n → f j < 4294967296) (hmc : m ≤ c') (hc' : c' ≤ maxLen) (hE : Cells W E m (Lm g)) (hg : ∀ j, j < m → g j < 4294967296) :
    Calls Try.prog 9 #[natv D n c, natv E m c'] W fun e w' => e = .returned (.bool true) ∧ Below W.heap.size W w' := by
  have hn9 : n ≤ 9223372036854775807 := by unfold maxLen at hc; omega
  have hm9 : m ≤ 9223372036854775807 := by unfold maxLen at hc'; omega
  clear hnc hc hmc hc'
  unfold natv
  by_cases hfew : n ≤ 70 ∧ m ≤ 70
  · obtain ⟨hn70, hm70⟩ := hfew
    cases hva : vd n f with
    | false =>
      have HVA := Lib.hid hva
      clear hva hf hg
      have BX := Lib.hid ((((Bxs.nil W).cons (.slice D n c))).cons (.slice E m c'))
      have HB := Lib.hid (bl_alloc' (bl_alloc' (Below.refl W.heap.size W) (.cells #[.slice D n c] 24)) (.cells #[.slice E m c'] 24))
      go_enter Try.func9, Try.ntmps9
      go_wp2_with fail
      refine (nfew_yes hn70 hm70 _).mono ?_
      rintro e w1 ⟨rfl, hb1⟩
      have BK := BX.out.keep hb1
      obtain ⟨q1, l1⟩ := BK.fact (b := W.heap.size) (S := .slice D n c) (by simp)
      obtain ⟨q2, l2⟩ := BK.fact (b := W.heap.size + 1) (S := .slice E m c') (by simp)
      replace BX := Lib.hid BK
      replace HB := Lib.hid (Below.on HB.out hb1)
      clear BK hb1
      go_wp2_with fail
      refine (res_bad (gcd_bad (f := f) (g := g) hn9 hm9 (hD.below HB.out) (hE.below HB.out) (.inl HVA.out))).mono ?_
      rintro e w2 ⟨rfl, hb2⟩
      clear q1 l1
      clear q2 l2
      have BK := BX.out.keep hb2
      obtain ⟨q3, l3⟩ := BK.fact (b := W.heap.size) (S := .slice D n c) (by simp)
      obtain ⟨q4, l4⟩ := BK.fact (b := W.heap.size + 1) (S := .slice E m c') (by simp)
      replace BX := Lib.hid (BK.cons (.slice none 0 0))
      replace HB := Lib.hid (bl_alloc' (Below.on HB.out hb2) (.cells #[.slice none 0 0] 24))
      clear BK hb2
      go_wp2_with fail
      refine (res_bad (refGCD_bad (f := f) (g := g) hn9 hm9 (hD.below HB.out) (hE.below HB.out) (.inl HVA.out))).mono ?_
      rintro e w3 ⟨rfl, hb3⟩
      clear q3 l3
      clear q4 l4
      have BK := BX.out.keep hb3
      obtain ⟨q5, l5⟩ := BK.fact (b := W.heap.size) (S := .slice D n c) (by simp)
      obtain ⟨q6, l6⟩ := BK.fact (b := W.heap.size + 1) (S := .slice E m c') (by simp)
      obtain ⟨q7, l7⟩ := BK.fact (b := w2.heap.size) (S := .slice none 0 0) (by simp)
      replace BX := Lib.hid (BK.cons (.slice none 0 0))
      replace HB := Lib.hid (bl_alloc' (Below.on HB.out hb3) (.cells #[.slice none 0 0] 24))
      clear BK hb3
      go_wp2_with fail
      refine (same_yes (n := 0) (f := fun _ => 0) (by omega) Cells.nil Cells.nil).mono ?_
      rintro e w4 ⟨rfl, hb4⟩
      clear q5 l5
      clear q6 l6
      clear q7 l7
      have BK := BX.out.keep hb4
      obtain ⟨q8, l8⟩ := BK.fact (b := W.heap.size) (S := .slice D n c) (by simp)
      obtain ⟨q9, l9⟩ := BK.fact (b := W.heap.size + 1) (S := .slice E m c') (by simp)
      obtain ⟨q10, l10⟩ := BK.fact (b := w2.heap.size) (S := .slice none 0 0) (by simp)
      obtain ⟨q11, l11⟩ := BK.fact (b := w3.heap.size) (S := .slice none 0 0) (by simp)
      replace BX := Lib.hid BK
      replace HB := Lib.hid (Below.on HB.out hb4)
      clear BK hb4
      go_wp2_with fail
      refine (common_any _).mono ?_
      rintro e w5 ⟨rfl, hb5⟩
      clear q8 l8
      clear q9 l9
      clear q10 l10
      clear q11 l11
      have BK := BX.out.keep hb5
      obtain ⟨q12, l12⟩ := BK.fact (b := W.heap.size) (S := .slice D n c) (by simp)
      obtain ⟨q13, l13⟩ := BK.fact (b := W.heap.size + 1) (S := .slice E m c') (by simp)
      obtain ⟨q14, l14⟩ := BK.fact (b := w2.heap.size) (S := .slice none 0 0) (by simp)
      obtain ⟨q15, l15⟩ := BK.fact (b := w3.heap.size) (S := .slice none 0 0) (by simp)
      replace BX := Lib.hid BK
      replace HB := Lib.hid (Below.on HB.out hb5)
      clear BK hb5
      go_wp2
      go_ret
      exact ⟨rfl, HB.out⟩
    | true =>
      cases hvb : vd m g with
      | false =>
        have HVA := Lib.hid hva
        have HVB := Lib.hid hvb
        clear hva hvb hf hg
        have BX := Lib.hid ((((Bxs.nil W).cons (.slice D n c))).cons (.slice E m c'))
        have HB := Lib.hid (bl_alloc' (bl_alloc' (Below.refl W.heap.size W) (.cells #[.slice D n c] 24)) (.cells #[.slice E m c'] 24))
        go_enter Try.func9, Try.ntmps9
        go_wp2_with fail
        refine (nfew_yes hn70 hm70 _).mono ?_
        rintro e w1 ⟨rfl, hb1⟩
        have BK := BX.out.keep hb1
        obtain ⟨q1, l1⟩ := BK.fact (b := W.heap.size) (S := .slice D n c) (by simp)
        obtain ⟨q2, l2⟩ := BK.fact (b := W.heap.size + 1) (S := .slice E m c') (by simp)
        replace BX := Lib.hid BK
        replace HB := Lib.hid (Below.on HB.out hb1)
        clear BK hb1
        go_wp2_with fail
        refine (res_bad (gcd_bad (f := f) (g := g) hn9 hm9 (hD.below HB.out) (hE.below HB.out) (.inr ⟨HVA.out, HVB.out⟩))).mono ?_
        rintro e w2 ⟨rfl, hb2⟩
        clear q1 l1
        clear q2 l2
        have BK := BX.out.keep hb2
        obtain ⟨q3, l3⟩ := BK.fact (b := W.heap.size) (S := .slice D n c) (by simp)
        obtain ⟨q4, l4⟩ := BK.fact (b := W.heap.size + 1) (S := .slice E m c') (by simp)
        replace BX := Lib.hid (BK.cons (.slice none 0 0))
        replace HB := Lib.hid (bl_alloc' (Below.on HB.out hb2) (.cells #[.slice none 0 0] 24))
        clear BK hb2
        go_wp2_with fail
        refine (res_bad (refGCD_bad (f := f) (g := g) hn9 hm9 (hD.below HB.out) (hE.below HB.out) (.inr ⟨HVA.out, HVB.out⟩))).mono ?_
        rintro e w3 ⟨rfl, hb3⟩
        clear q3 l3
        clear q4 l4
        have BK := BX.out.keep hb3
        obtain ⟨q5, l5⟩ := BK.fact (b := W.heap.size) (S := .slice D n c) (by simp)
        obtain ⟨q6, l6⟩ := BK.fact (b := W.heap.size + 1) (S := .slice E m c') (by simp)
        obtain ⟨q7, l7⟩ := BK.fact (b := w2.heap.size) (S := .slice none 0 0) (by simp)
        replace BX := Lib.hid (BK.cons (.slice none 0 0))
        replace HB := Lib.hid (bl_alloc' (Below.on HB.out hb3) (.cells #[.slice none 0 0] 24))
        clear BK hb3
        go_wp2_with fail
        refine (same_yes (n := 0) (f := fun _ => 0) (by omega) Cells.nil Cells.nil).mono ?_
        rintro e w4 ⟨rfl, hb4⟩
        clear q5 l5
        clear q6 l6
        clear q7 l7
        have BK := BX.out.keep hb4
        obtain ⟨q8, l8⟩ := BK.fact (b := W.heap.size) (S := .slice D n c) (by simp)
        obtain ⟨q9, l9⟩ := BK.fact (b := W.heap.size + 1) (S := .slice E m c') (by simp)
        obtain ⟨q10, l10⟩ := BK.fact (b := w2.heap.size) (S := .slice none 0 0) (by simp)
        obtain ⟨q11, l11⟩ := BK.fact (b := w3.heap.size) (S := .slice none 0 0) (by simp)
        replace BX := Lib.hid BK
        replace HB := Lib.hid (Below.on HB.out hb4)
        clear BK hb4
        go_wp2_with fail
        refine (common_any _).mono ?_
        rintro e w5 ⟨rfl, hb5⟩
        clear q8 l8
        clear q9 l9
        clear q10 l10
        clear q11 l11
        have BK := BX.out.keep hb5
        obtain ⟨q12, l12⟩ := BK.fact (b := W.heap.size) (S := .slice D n c) (by simp)
        obtain ⟨q13, l13⟩ := BK.fact (b := W.heap.size + 1) (S := .slice E m c') (by simp)
        obtain ⟨q14, l14⟩ := BK.fact (b := w2.heap.size) (S := .slice none 0 0) (by simp)
        obtain ⟨q15, l15⟩ := BK.fact (b := w3.heap.size) (S := .slice none 0 0) (by simp)
        replace BX := Lib.hid BK
        replace HB := Lib.hid (Below.on HB.out hb5)
        clear BK hb5
        go_wp2
        go_ret
        exact ⟨rfl, HB.out⟩
      | true =>
        obtain ⟨hn, hLx, hX⟩ := num_of hD hf hva
        obtain ⟨hm, hLy, hY⟩ := num_of hE hg hvb
        generalize v32 f n = x at *
        generalize v32 g m = y at *
        have HLX := Lib.hid hLx
        have HLY := Lib.hid hLy
        have h64 : L32 (Nat.gcd x y) ≤ 64 := gcd_len (by rw [← hLx]; exact hn) (by rw [← hLy]; exact hm)
        obtain ⟨d, hd⟩ : ∃ d, d = Nat.gcd x y := ⟨_, rfl⟩
        rw [← hd] at h64
        have HD := Lib.hid hd.symm
        obtain ⟨z, hz0⟩ : ∃ z, z = 0 := ⟨_, rfl⟩
        have hdx : x % d = z := by rw [hd, hz0]; exact Nat.mod_eq_zero_of_dvd (Nat.gcd_dvd_left x y)
        have hdy : y % d = z := by rw [hd, hz0]; exact Nat.mod_eq_zero_of_dvd (Nat.gcd_dvd_right x y)
        have HDX := Lib.hid hdx
        have HDY := Lib.hid hdy
        have hzi : ((L32 z : Nat) : Int) = 0 := by have : L32 z = 0 := L32_zero.2 hz0; omega
        clear hva hvb hf hg hD hE hLx hLy hd hdx hdy hz0
        by_cases hd0 : d = 0
        · have hl0 : ((L32 d : Nat) : Int) = 0 := by have : L32 d = 0 := L32_zero.2 hd0; omega
          clear hd0
          have BX := Lib.hid ((((Bxs.nil W).cons (.slice D n c))).cons (.slice E m c'))
          have HB := Lib.hid (bl_alloc' (bl_alloc' (Below.refl W.heap.size W) (.cells #[.slice D n c] 24)) (.cells #[.slice E m c'] 24))
          go_enter Try.func9, Try.ntmps9
          go_wp2_with fail
          refine (nfew_yes hn70 hm70 _).mono ?_
          rintro e w1 ⟨rfl, hb1⟩
          have BK := BX.out.keep hb1
          obtain ⟨q1, l1⟩ := BK.fact (b := W.heap.size) (S := .slice D n c) (by simp)
          obtain ⟨q2, l2⟩ := BK.fact (b := W.heap.size + 1) (S := .slice E m c') (by simp)
          replace BX := Lib.hid BK
          replace HB := Lib.hid (Below.on HB.out hb1)
          clear BK hb1
          go_wp2_with fail
          refine (gcd_to (x := x) (y := y) (z := d) hn hm HLX.out HLY.out (hX.below HB.out) (hY.below HB.out) HD.out).mono ?_
          rintro e w2 ⟨D2, c2, rfl, hl2, hc2, hb2⟩
          clear q1 l1
          clear q2 l2
          have BK := BX.out.keep hb2
          obtain ⟨q3, l3⟩ := BK.fact (b := W.heap.size) (S := .slice D n c) (by simp)
          obtain ⟨q4, l4⟩ := BK.fact (b := W.heap.size + 1) (S := .slice E m c') (by simp)
          replace BX := Lib.hid (BK.cons (.slice D2 (L32 (d)) c2))
          replace HB := Lib.hid (bl_alloc' (Below.on HB.out hb2) (.cells #[.slice D2 (L32 (d)) c2] 24))
          have HC2 := Lib.hid (hc2.alloc (.cells #[.slice D2 (L32 (d)) c2] 24))
          clear hc2
          clear BK hb2
          go_wp2_with fail
          refine (refGcd_to (x := x) (y := y) (z := d) hn hm HLX.out HLY.out (hX.below HB.out) (hY.below HB.out) HD.out).mono ?_
          rintro e w3 ⟨D3, c3, rfl, hl3, hc3, hb3⟩
          clear q3 l3
          clear q4 l4
          have BK := BX.out.keep hb3
          obtain ⟨q5, l5⟩ := BK.fact (b := W.heap.size) (S := .slice D n c) (by simp)
          obtain ⟨q6, l6⟩ := BK.fact (b := W.heap.size + 1) (S := .slice E m c') (by simp)
          obtain ⟨q7, l7⟩ := BK.fact (b := w2.heap.size) (S := .slice D2 (L32 (d)) c2) (by simp)
          replace BX := Lib.hid (BK.cons (.slice D3 (L32 (d)) c3))
          replace HB := Lib.hid (bl_alloc' (Below.on HB.out hb3) (.cells #[.slice D3 (L32 (d)) c3] 24))
          replace HC2 := Lib.hid ((HC2.out.below hb3).alloc (.cells #[.slice D3 (L32 (d)) c3] 24))
          have HC3 := Lib.hid (hc3.alloc (.cells #[.slice D3 (L32 (d)) c3] 24))
          clear hc3
          clear BK hb3
          go_wp2_with fail
          refine (same_yes (n := L32 d) (f := d32 d) (by omega) HC2.out HC3.out).mono ?_
          rintro e w4 ⟨rfl, hb4⟩
          clear q5 l5
          clear q6 l6
          clear q7 l7
          have BK := BX.out.keep hb4
          obtain ⟨q8, l8⟩ := BK.fact (b := W.heap.size) (S := .slice D n c) (by simp)
          obtain ⟨q9, l9⟩ := BK.fact (b := W.heap.size + 1) (S := .slice E m c') (by simp)
          obtain ⟨q10, l10⟩ := BK.fact (b := w2.heap.size) (S := .slice D2 (L32 (d)) c2) (by simp)
          obtain ⟨q11, l11⟩ := BK.fact (b := w3.heap.size) (S := .slice D3 (L32 (d)) c3) (by simp)
          replace BX := Lib.hid BK
          replace HB := Lib.hid (Below.on HB.out hb4)
          replace HC2 := Lib.hid (HC2.out.below hb4)
          replace HC3 := Lib.hid (HC3.out.below hb4)
          clear BK hb4
          go_wp2_with fail
          refine (common_any _).mono ?_
          rintro e w5 ⟨rfl, hb5⟩
          clear q8 l8
          clear q9 l9
          clear q10 l10
          clear q11 l11
          have BK := BX.out.keep hb5
          obtain ⟨q12, l12⟩ := BK.fact (b := W.heap.size) (S := .slice D n c) (by simp)
          obtain ⟨q13, l13⟩ := BK.fact (b := W.heap.size + 1) (S := .slice E m c') (by simp)
          obtain ⟨q14, l14⟩ := BK.fact (b := w2.heap.size) (S := .slice D2 (L32 (d)) c2) (by simp)
          obtain ⟨q15, l15⟩ := BK.fact (b := w3.heap.size) (S := .slice D3 (L32 (d)) c3) (by simp)
          replace BX := Lib.hid BK
          replace HB := Lib.hid (Below.on HB.out hb5)
          replace HC2 := Lib.hid (HC2.out.below hb5)
          replace HC3 := Lib.hid (HC3.out.below hb5)
          clear BK hb5
          go_wp2
          go_ret
          exact ⟨rfl, HB.out⟩
        · have hl0 : 0 < L32 d := by
            rcases Nat.eq_zero_or_pos (L32 d) with h | h
            · exact absurd (L32_zero.1 h) hd0
            · exact h
          have HD0 := Lib.hid (show 0 < d by omega)
          obtain ⟨p, hp⟩ : ∃ p, p = x / d := ⟨_, rfl⟩
          obtain ⟨r, hr⟩ : ∃ r, r = y / d := ⟨_, rfl⟩
          have HP := Lib.hid hp.symm
          have HR := Lib.hid hr.symm
          clear hd0 hp hr
          have BX := Lib.hid ((((Bxs.nil W).cons (.slice D n c))).cons (.slice E m c'))
          have HB := Lib.hid (bl_alloc' (bl_alloc' (Below.refl W.heap.size W) (.cells #[.slice D n c] 24)) (.cells #[.slice E m c'] 24))
          go_enter Try.func9, Try.ntmps9
          go_wp2_with fail
          refine (nfew_yes hn70 hm70 _).mono ?_
          rintro e w1 ⟨rfl, hb1⟩
          have BK := BX.out.keep hb1
          obtain ⟨q1, l1⟩ := BK.fact (b := W.heap.size) (S := .slice D n c) (by simp)
          obtain ⟨q2, l2⟩ := BK.fact (b := W.heap.size + 1) (S := .slice E m c') (by simp)
          replace BX := Lib.hid BK
          replace HB := Lib.hid (Below.on HB.out hb1)
          clear BK hb1
          go_wp2_with fail
          refine (gcd_to (x := x) (y := y) (z := d) hn hm HLX.out HLY.out (hX.below HB.out) (hY.below HB.out) HD.out).mono ?_
          rintro e w2 ⟨D2, c2, rfl, hl2, hc2, hb2⟩
          clear q1 l1
          clear q2 l2
          have BK := BX.out.keep hb2
          obtain ⟨q3, l3⟩ := BK.fact (b := W.heap.size) (S := .slice D n c) (by simp)
          obtain ⟨q4, l4⟩ := BK.fact (b := W.heap.size + 1) (S := .slice E m c') (by simp)
          replace BX := Lib.hid (BK.cons (.slice D2 (L32 (d)) c2))
          replace HB := Lib.hid (bl_alloc' (Below.on HB.out hb2) (.cells #[.slice D2 (L32 (d)) c2] 24))
          have HC2 := Lib.hid (hc2.alloc (.cells #[.slice D2 (L32 (d)) c2] 24))
          clear hc2
          clear BK hb2
          go_wp2_with fail
          refine (refGcd_to (x := x) (y := y) (z := d) hn hm HLX.out HLY.out (hX.below HB.out) (hY.below HB.out) HD.out).mono ?_
          rintro e w3 ⟨D3, c3, rfl, hl3, hc3, hb3⟩
          clear q3 l3
          clear q4 l4
          have BK := BX.out.keep hb3
          obtain ⟨q5, l5⟩ := BK.fact (b := W.heap.size) (S := .slice D n c) (by simp)
          obtain ⟨q6, l6⟩ := BK.fact (b := W.heap.size + 1) (S := .slice E m c') (by simp)
          obtain ⟨q7, l7⟩ := BK.fact (b := w2.heap.size) (S := .slice D2 (L32 (d)) c2) (by simp)
          replace BX := Lib.hid (BK.cons (.slice D3 (L32 (d)) c3))
          replace HB := Lib.hid (bl_alloc' (Below.on HB.out hb3) (.cells #[.slice D3 (L32 (d)) c3] 24))
          replace HC2 := Lib.hid ((HC2.out.below hb3).alloc (.cells #[.slice D3 (L32 (d)) c3] 24))
          have HC3 := Lib.hid (hc3.alloc (.cells #[.slice D3 (L32 (d)) c3] 24))
          clear hc3
          clear BK hb3
          go_wp2_with fail
          refine (same_yes (n := L32 d) (f := d32 d) (by omega) HC2.out HC3.out).mono ?_
          rintro e w4 ⟨rfl, hb4⟩
          clear q5 l5
          clear q6 l6
          clear q7 l7
          have BK := BX.out.keep hb4
          obtain ⟨q8, l8⟩ := BK.fact (b := W.heap.size) (S := .slice D n c) (by simp)
          obtain ⟨q9, l9⟩ := BK.fact (b := W.heap.size + 1) (S := .slice E m c') (by simp)
          obtain ⟨q10, l10⟩ := BK.fact (b := w2.heap.size) (S := .slice D2 (L32 (d)) c2) (by simp)
          obtain ⟨q11, l11⟩ := BK.fact (b := w3.heap.size) (S := .slice D3 (L32 (d)) c3) (by simp)
          replace BX := Lib.hid BK
          replace HB := Lib.hid (Below.on HB.out hb4)
          replace HC2 := Lib.hid (HC2.out.below hb4)
          replace HC3 := Lib.hid (HC3.out.below hb4)
          clear BK hb4
          go_wp2_with fail
          refine (div_to (x := x) (y := d) (q := p) (r := z) hn h64 HLX.out rfl (hX.below HB.out) HC2.out HD0.out HP.out HDX.out).mono ?_
          rintro e w5 ⟨D5, c5, D5b, c5b, rfl, hc5, hd5, hb5⟩
          clear q8 l8
          clear q9 l9
          clear q10 l10
          clear q11 l11
          have BK := BX.out.keep hb5
          obtain ⟨q12, l12⟩ := BK.fact (b := W.heap.size) (S := .slice D n c) (by simp)
          obtain ⟨q13, l13⟩ := BK.fact (b := W.heap.size + 1) (S := .slice E m c') (by simp)
          obtain ⟨q14, l14⟩ := BK.fact (b := w2.heap.size) (S := .slice D2 (L32 (d)) c2) (by simp)
          obtain ⟨q15, l15⟩ := BK.fact (b := w3.heap.size) (S := .slice D3 (L32 (d)) c3) (by simp)
          replace BX := Lib.hid ((BK.cons (.slice D5 (L32 (p)) c5)).cons (.slice D5b (L32 (z)) c5b))
          replace HB := Lib.hid (bl_alloc' (bl_alloc' (Below.on HB.out hb5) (.cells #[.slice D5 (L32 (p)) c5] 24)) (.cells #[.slice D5b (L32 (z)) c5b] 24))
          replace HC2 := Lib.hid (((HC2.out.below hb5).alloc (.cells #[.slice D5 (L32 (p)) c5] 24)).alloc (.cells #[.slice D5b (L32 (z)) c5b] 24))
          replace HC3 := Lib.hid (((HC3.out.below hb5).alloc (.cells #[.slice D5 (L32 (p)) c5] 24)).alloc (.cells #[.slice D5b (L32 (z)) c5b] 24))
          have HC5 := Lib.hid ((hc5.alloc (.cells #[.slice D5 (L32 (p)) c5] 24)).alloc (.cells #[.slice D5b (L32 (z)) c5b] 24))
          have HC5b := Lib.hid ((hd5.alloc (.cells #[.slice D5 (L32 (p)) c5] 24)).alloc (.cells #[.slice D5b (L32 (z)) c5b] 24))
          clear hc5 hd5
          clear BK hb5
          go_wp2_with fail
          refine (div_to (x := y) (y := d) (q := r) (r := z) hm h64 HLY.out rfl (hY.below HB.out) HC2.out HD0.out HR.out HDY.out).mono ?_
          rintro e w6 ⟨D6, c6, D6b, c6b, rfl, hc6, hd6, hb6⟩
          clear q12 l12
          clear q13 l13
          clear q14 l14
          clear q15 l15
          have BK := BX.out.keep hb6
          obtain ⟨q16, l16⟩ := BK.fact (b := W.heap.size) (S := .slice D n c) (by simp)
          obtain ⟨q17, l17⟩ := BK.fact (b := W.heap.size + 1) (S := .slice E m c') (by simp)
          obtain ⟨q18, l18⟩ := BK.fact (b := w2.heap.size) (S := .slice D2 (L32 (d)) c2) (by simp)
          obtain ⟨q19, l19⟩ := BK.fact (b := w3.heap.size) (S := .slice D3 (L32 (d)) c3) (by simp)
          obtain ⟨q20, l20⟩ := BK.fact (b := w5.heap.size) (S := .slice D5 (L32 (p)) c5) (by simp)
          obtain ⟨q21, l21⟩ := BK.fact (b := w5.heap.size + 1) (S := .slice D5b (L32 (z)) c5b) (by simp)
          replace BX := Lib.hid ((BK.cons (.slice D6 (L32 (r)) c6)).cons (.slice D6b (L32 (z)) c6b))
          replace HB := Lib.hid (bl_alloc' (bl_alloc' (Below.on HB.out hb6) (.cells #[.slice D6 (L32 (r)) c6] 24)) (.cells #[.slice D6b (L32 (z)) c6b] 24))
          replace HC2 := Lib.hid (((HC2.out.below hb6).alloc (.cells #[.slice D6 (L32 (r)) c6] 24)).alloc (.cells #[.slice D6b (L32 (z)) c6b] 24))
          replace HC3 := Lib.hid (((HC3.out.below hb6).alloc (.cells #[.slice D6 (L32 (r)) c6] 24)).alloc (.cells #[.slice D6b (L32 (z)) c6b] 24))
          replace HC5 := Lib.hid (((HC5.out.below hb6).alloc (.cells #[.slice D6 (L32 (r)) c6] 24)).alloc (.cells #[.slice D6b (L32 (z)) c6b] 24))
          replace HC5b := Lib.hid (((HC5b.out.below hb6).alloc (.cells #[.slice D6 (L32 (r)) c6] 24)).alloc (.cells #[.slice D6b (L32 (z)) c6b] 24))
          have HC6 := Lib.hid ((hc6.alloc (.cells #[.slice D6 (L32 (r)) c6] 24)).alloc (.cells #[.slice D6b (L32 (z)) c6b] 24))
          have HC6b := Lib.hid ((hd6.alloc (.cells #[.slice D6 (L32 (r)) c6] 24)).alloc (.cells #[.slice D6b (L32 (z)) c6b] 24))
          clear hc6 hd6
          clear BK hb6
          go_wp2_with fail
          refine (common_any _).mono ?_
          rintro e w7 ⟨rfl, hb7⟩
          clear q16 l16
          clear q17 l17
          clear q18 l18
          clear q19 l19
          clear q20 l20
          clear q21 l21
          have BK := BX.out.keep hb7
          obtain ⟨q22, l22⟩ := BK.fact (b := W.heap.size) (S := .slice D n c) (by simp)
          obtain ⟨q23, l23⟩ := BK.fact (b := W.heap.size + 1) (S := .slice E m c') (by simp)
          obtain ⟨q24, l24⟩ := BK.fact (b := w2.heap.size) (S := .slice D2 (L32 (d)) c2) (by simp)
          obtain ⟨q25, l25⟩ := BK.fact (b := w3.heap.size) (S := .slice D3 (L32 (d)) c3) (by simp)
          obtain ⟨q26, l26⟩ := BK.fact (b := w5.heap.size) (S := .slice D5 (L32 (p)) c5) (by simp)
          obtain ⟨q27, l27⟩ := BK.fact (b := w5.heap.size + 1) (S := .slice D5b (L32 (z)) c5b) (by simp)
          obtain ⟨q28, l28⟩ := BK.fact (b := w6.heap.size) (S := .slice D6 (L32 (r)) c6) (by simp)
          obtain ⟨q29, l29⟩ := BK.fact (b := w6.heap.size + 1) (S := .slice D6b (L32 (z)) c6b) (by simp)
          replace BX := Lib.hid BK
          replace HB := Lib.hid (Below.on HB.out hb7)
          replace HC2 := Lib.hid (HC2.out.below hb7)
          replace HC3 := Lib.hid (HC3.out.below hb7)
          replace HC5 := Lib.hid (HC5.out.below hb7)
          replace HC5b := Lib.hid (HC5b.out.below hb7)
          replace HC6 := Lib.hid (HC6.out.below hb7)
          replace HC6b := Lib.hid (HC6b.out.below hb7)
          clear BK hb7
          go_wp2
          go_ret
          exact ⟨rfl, HB.out⟩
  · have hfew2 : 70 < n ∨ n ≤ 70 ∧ 70 < m := by omega
    have HF := Lib.hid hfew2
    clear hfew hfew2 hf hg
    have BX := Lib.hid ((((Bxs.nil W).cons (.slice D n c))).cons (.slice E m c'))
    have HB := Lib.hid (bl_alloc' (bl_alloc' (Below.refl W.heap.size W) (.cells #[.slice D n c] 24)) (.cells #[.slice E m c'] 24))
    go_enter Try.func9, Try.ntmps9
    go_wp2_with fail
    refine (nfew_no HF.out _).mono ?_
    rintro e w1 ⟨rfl, hb1⟩
    have BK := BX.out.keep hb1
    obtain ⟨q1, l1⟩ := BK.fact (b := W.heap.size) (S := .slice D n c) (by simp)
    obtain ⟨q2, l2⟩ := BK.fact (b := W.heap.size + 1) (S := .slice E m c') (by simp)
    replace BX := Lib.hid BK
    replace HB := Lib.hid (Below.on HB.out hb1)
    clear BK hb1
    go_wp2_with fail
    refine (common_any _).mono ?_
    rintro e w2 ⟨rfl, hb2⟩
    clear q1 l1
    clear q2 l2
    have BK := BX.out.keep hb2
    obtain ⟨q3, l3⟩ := BK.fact (b := W.heap.size) (S := .slice D n c) (by simp)
    obtain ⟨q4, l4⟩ := BK.fact (b := W.heap.size + 1) (S := .slice E m c') (by simp)
    replace BX := Lib.hid BK
    replace HB := Lib.hid (Below.on HB.out hb2)
    clear BK hb2
    go_wp2
    go_ret
    exact ⟨rfl, HB.out⟩
end Go.Proofs.Ythjbkadhgcjnaaa
