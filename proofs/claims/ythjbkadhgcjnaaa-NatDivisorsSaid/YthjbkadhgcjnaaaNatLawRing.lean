/- The walk of the law NatRing. -/
import Derived.Test.YthjbkadhgcjnaaaNatWords
import Derived.Test.YthjbkadhgcjnaaaNatBad
import Derived.Test.YthjbkadhgcjnaaaNatRDiff
import Derived.Test.YthjbkadhgcjnaaaNatRProd
import Derived.Test.YthjbkadhgcjnaaaNatSub
import Derived.Test.YthjbkadhgcjnaaaNatLawForms
set_option linter.unusedVariables false
namespace Go.Proofs.Ythjbkadhgcjnaaa
open Go.RowKit

theorem zero_num : (0 : Nat) = L32 0 := (L32_zero.2 rfl).symm
theorem cells_zero {w : World} {D : Option Addr} {f : Nat → Nat} : Cells w D 0 (Lm f) := Cells.nil
theorem ncmp_eq {D E : Option Addr} {n m c c' x y : Nat} {w : World} (hn : n ≤ 64) (hm : m ≤ 64) (hnx : n = L32 x) (hmy : m = L32 y) (hx : Cells w D n (Lm (d32 x))) (hy : Cells w E m (Lm (d32 y))) (h : x = y) :
    Calls Try.prog 21 #[.agg #[.slice D n c], .agg #[.slice E m c']] w fun e w' => e = .returned (.int .i64 0) ∧ Below w.heap.size w w' := by
  have := ncmp_any (c := c) (c' := c') hn hm hnx hmy hx hy
  rw [cmp_eqI h] at this
  exact this
theorem sub_to {D E : Option Addr} {n m c c' x y z : Nat} {w : World} (hn : n ≤ 64) (hm : m ≤ 64) (hnx : n = L32 x) (hmy : m = L32 y) (hx : Cells w D n (Lm (d32 x))) (hy : Cells w E m (Lm (d32 y))) (hyx : y ≤ x) (hz : x - y = z) :
    Calls Try.prog 26 #[.agg #[.slice D n c], .agg #[.slice E m c']] w fun e w' => ∃ D c, e = .returned (.tuple #[.agg #[.slice D (L32 z) c], .int .i64 0]) ∧ L32 z ≤ c ∧ Cells w' D (L32 z) (Lm (d32 z)) ∧ Below w.heap.size w w' := by
  subst hz
  exact res_sub (sub_any hn hm hnx hmy hx hy hyx)
set_option maxHeartbeats 4000000 in
set_option maxRecDepth 100000 in
theorem natRing_walk (W : World) {D E F : Option Addr} {n c m c' q cq : Nat} {f g h : Nat → Nat} (hnc : n ≤ c) (hc : c ≤ maxLen) (hD : Cells W D n (Lm f)) (hf : ∀ j, j < n → f j < 4294967296) (hmc : m ≤ c') (hc' : c' ≤ maxLen) (hE : Cells W E m (Lm g)) (hg : ∀ j, j < m → g j < 4294967296)
    (hqc : q ≤ cq) (hcq : cq ≤ maxLen) (hF : Cells W F q (Lm h)) (hh : ∀ j, j < q → h j < 4294967296) :
    Calls Try.prog 7 #[natv D n c, natv E m c', natv F q cq] W fun e w' => e = .returned (.bool true) ∧ Below W.heap.size W w' := by
  have hn9 : n ≤ 9223372036854775807 := by unfold maxLen at hc; omega
  have hm9 : m ≤ 9223372036854775807 := by unfold maxLen at hc'; omega
  have hq9 : q ≤ 9223372036854775807 := by unfold maxLen at hcq; omega
  clear hnc hc hmc hc' hqc hcq
  unfold natv
  cases hva : vd n f with
  | true =>
    obtain ⟨hn, hLx, hX⟩ := num_of hD hf hva
    generalize v32 f n = x at *
    have HLX := Lib.hid hLx
    clear hva hf hD hLx
    by_cases hv : vd m g = true ∧ vd q h = true
    · obtain ⟨hm, hLy, hY⟩ := num_of hE hg hv.1
      obtain ⟨hq, hLz, hZ⟩ := num_of hF hh hv.2
      generalize v32 g m = y at *
      generalize v32 h q = z at *
      have HLY := Lib.hid hLy
      have HLZ := Lib.hid hLz
      clear hv hg hh hE hF hLy hLz
      by_cases h1 : L32 (y + z) ≤ 64
      · by_cases h2 : L32 (x * (y + z)) ≤ 64
        · have h3 : L32 (x * y) ≤ 64 := Nat.le_trans (Nt.len_mono (by omega) (Nat.mul_le_mul_left _ (by omega))) h2
          have h4 : L32 (z * x) ≤ 64 := Nat.le_trans (Nt.len_mono (by omega) (by rw [Nat.mul_comm]; exact Nat.mul_le_mul_left _ (by omega))) h2
          have h5 : z * x + x * y = x * (y + z) := by rw [Nat.mul_add, Nat.mul_comm z x, Nat.add_comm]
          have h6 : L32 (z * x + x * y) ≤ 64 := by rw [h5]; exact h2
          have H5 := Lib.hid h5
          have h7 : y + z - y = z := by omega
          have h8 : L32 z ≤ 64 := by rw [← HLZ.out]; exact hq
          have H7 := Lib.hid h7
          have hyz : y ≤ y + z := by omega
          clear h5 h7
          have BX := Lib.hid ((((((Bxs.nil W).cons (.slice D n c))).cons (.slice E m c'))).cons (.slice F q cq))
          have HB := Lib.hid (bl_alloc' (bl_alloc' (bl_alloc' (Below.refl W.heap.size W) (.cells #[.slice D n c] 24)) (.cells #[.slice E m c'] 24)) (.cells #[.slice F q cq] 24))
          go_enter Try.func7, Try.ntmps7
          go_wp2_with fail
          refine (res_yes (add_any (x := y) (y := z) hm hq HLY.out HLZ.out (hY.below HB.out) (hZ.below HB.out)) h1).mono ?_
          rintro e w1 ⟨D1, c1, rfl, hl1, hc1, hb1⟩
          have BK := BX.out.keep hb1
          obtain ⟨q1, l1⟩ := BK.fact (b := W.heap.size) (S := .slice D n c) (by simp)
          obtain ⟨q2, l2⟩ := BK.fact (b := W.heap.size + 1) (S := .slice E m c') (by simp)
          obtain ⟨q3, l3⟩ := BK.fact (b := W.heap.size + 1 + 1) (S := .slice F q cq) (by simp)
          replace BX := Lib.hid (BK.cons (.slice D1 (L32 (y + z)) c1))
          replace HB := Lib.hid (bl_alloc' (Below.on HB.out hb1) (.cells #[.slice D1 (L32 (y + z)) c1] 24))
          have HC1 := Lib.hid (hc1.alloc (.cells #[.slice D1 (L32 (y + z)) c1] 24))
          clear hc1
          clear BK hb1
          go_wp2_with fail
          refine (res_yes (mul_any (x := x) (y := y + z) hn h1 HLX.out rfl (hX.below HB.out) HC1.out) h2).mono ?_
          rintro e w2 ⟨D2, c2, rfl, hl2, hc2, hb2⟩
          clear q1 l1
          clear q2 l2
          clear q3 l3
          have BK := BX.out.keep hb2
          obtain ⟨q4, l4⟩ := BK.fact (b := W.heap.size) (S := .slice D n c) (by simp)
          obtain ⟨q5, l5⟩ := BK.fact (b := W.heap.size + 1) (S := .slice E m c') (by simp)
          obtain ⟨q6, l6⟩ := BK.fact (b := W.heap.size + 1 + 1) (S := .slice F q cq) (by simp)
          obtain ⟨q7, l7⟩ := BK.fact (b := w1.heap.size) (S := .slice D1 (L32 (y + z)) c1) (by simp)
          replace BX := Lib.hid (BK.cons (.slice D2 (L32 (x * (y + z))) c2))
          replace HB := Lib.hid (bl_alloc' (Below.on HB.out hb2) (.cells #[.slice D2 (L32 (x * (y + z))) c2] 24))
          replace HC1 := Lib.hid ((HC1.out.below hb2).alloc (.cells #[.slice D2 (L32 (x * (y + z))) c2] 24))
          have HC2 := Lib.hid (hc2.alloc (.cells #[.slice D2 (L32 (x * (y + z))) c2] 24))
          clear hc2
          clear BK hb2
          go_wp2_with fail
          refine (res_yes (mul_any (x := x) (y := y) hn hm HLX.out HLY.out (hX.below HB.out) (hY.below HB.out)) h3).mono ?_
          rintro e w3 ⟨D3, c3, rfl, hl3, hc3, hb3⟩
          clear q4 l4
          clear q5 l5
          clear q6 l6
          clear q7 l7
          have BK := BX.out.keep hb3
          obtain ⟨q8, l8⟩ := BK.fact (b := W.heap.size) (S := .slice D n c) (by simp)
          obtain ⟨q9, l9⟩ := BK.fact (b := W.heap.size + 1) (S := .slice E m c') (by simp)
          obtain ⟨q10, l10⟩ := BK.fact (b := W.heap.size + 1 + 1) (S := .slice F q cq) (by simp)
          obtain ⟨q11, l11⟩ := BK.fact (b := w1.heap.size) (S := .slice D1 (L32 (y + z)) c1) (by simp)
          obtain ⟨q12, l12⟩ := BK.fact (b := w2.heap.size) (S := .slice D2 (L32 (x * (y + z))) c2) (by simp)
          replace BX := Lib.hid (BK.cons (.slice D3 (L32 (x * y)) c3))
          replace HB := Lib.hid (bl_alloc' (Below.on HB.out hb3) (.cells #[.slice D3 (L32 (x * y)) c3] 24))
          replace HC1 := Lib.hid ((HC1.out.below hb3).alloc (.cells #[.slice D3 (L32 (x * y)) c3] 24))
          replace HC2 := Lib.hid ((HC2.out.below hb3).alloc (.cells #[.slice D3 (L32 (x * y)) c3] 24))
          have HC3 := Lib.hid (hc3.alloc (.cells #[.slice D3 (L32 (x * y)) c3] 24))
          clear hc3
          clear BK hb3
          go_wp2_with fail
          refine (res_yes (mul_any (x := z) (y := x) hq hn HLZ.out HLX.out (hZ.below HB.out) (hX.below HB.out)) h4).mono ?_
          rintro e w4 ⟨D4, c4, rfl, hl4, hc4, hb4⟩
          clear q8 l8
          clear q9 l9
          clear q10 l10
          clear q11 l11
          clear q12 l12
          have BK := BX.out.keep hb4
          obtain ⟨q13, l13⟩ := BK.fact (b := W.heap.size) (S := .slice D n c) (by simp)
          obtain ⟨q14, l14⟩ := BK.fact (b := W.heap.size + 1) (S := .slice E m c') (by simp)
          obtain ⟨q15, l15⟩ := BK.fact (b := W.heap.size + 1 + 1) (S := .slice F q cq) (by simp)
          obtain ⟨q16, l16⟩ := BK.fact (b := w1.heap.size) (S := .slice D1 (L32 (y + z)) c1) (by simp)
          obtain ⟨q17, l17⟩ := BK.fact (b := w2.heap.size) (S := .slice D2 (L32 (x * (y + z))) c2) (by simp)
          obtain ⟨q18, l18⟩ := BK.fact (b := w3.heap.size) (S := .slice D3 (L32 (x * y)) c3) (by simp)
          replace BX := Lib.hid (BK.cons (.slice D4 (L32 (z * x)) c4))
          replace HB := Lib.hid (bl_alloc' (Below.on HB.out hb4) (.cells #[.slice D4 (L32 (z * x)) c4] 24))
          replace HC1 := Lib.hid ((HC1.out.below hb4).alloc (.cells #[.slice D4 (L32 (z * x)) c4] 24))
          replace HC2 := Lib.hid ((HC2.out.below hb4).alloc (.cells #[.slice D4 (L32 (z * x)) c4] 24))
          replace HC3 := Lib.hid ((HC3.out.below hb4).alloc (.cells #[.slice D4 (L32 (z * x)) c4] 24))
          have HC4 := Lib.hid (hc4.alloc (.cells #[.slice D4 (L32 (z * x)) c4] 24))
          clear hc4
          clear BK hb4
          go_wp2_with fail
          refine (res_yes (add_any (x := z * x) (y := x * y) h4 h3 rfl rfl HC4.out HC3.out) h6).mono ?_
          rintro e w5 ⟨D5, c5, rfl, hl5, hc5, hb5⟩
          clear q13 l13
          clear q14 l14
          clear q15 l15
          clear q16 l16
          clear q17 l17
          clear q18 l18
          have BK := BX.out.keep hb5
          obtain ⟨q19, l19⟩ := BK.fact (b := W.heap.size) (S := .slice D n c) (by simp)
          obtain ⟨q20, l20⟩ := BK.fact (b := W.heap.size + 1) (S := .slice E m c') (by simp)
          obtain ⟨q21, l21⟩ := BK.fact (b := W.heap.size + 1 + 1) (S := .slice F q cq) (by simp)
          obtain ⟨q22, l22⟩ := BK.fact (b := w1.heap.size) (S := .slice D1 (L32 (y + z)) c1) (by simp)
          obtain ⟨q23, l23⟩ := BK.fact (b := w2.heap.size) (S := .slice D2 (L32 (x * (y + z))) c2) (by simp)
          obtain ⟨q24, l24⟩ := BK.fact (b := w3.heap.size) (S := .slice D3 (L32 (x * y)) c3) (by simp)
          obtain ⟨q25, l25⟩ := BK.fact (b := w4.heap.size) (S := .slice D4 (L32 (z * x)) c4) (by simp)
          replace BX := Lib.hid (BK.cons (.slice D5 (L32 (z * x + x * y)) c5))
          replace HB := Lib.hid (bl_alloc' (Below.on HB.out hb5) (.cells #[.slice D5 (L32 (z * x + x * y)) c5] 24))
          replace HC1 := Lib.hid ((HC1.out.below hb5).alloc (.cells #[.slice D5 (L32 (z * x + x * y)) c5] 24))
          replace HC2 := Lib.hid ((HC2.out.below hb5).alloc (.cells #[.slice D5 (L32 (z * x + x * y)) c5] 24))
          replace HC3 := Lib.hid ((HC3.out.below hb5).alloc (.cells #[.slice D5 (L32 (z * x + x * y)) c5] 24))
          replace HC4 := Lib.hid ((HC4.out.below hb5).alloc (.cells #[.slice D5 (L32 (z * x + x * y)) c5] 24))
          have HC5 := Lib.hid (hc5.alloc (.cells #[.slice D5 (L32 (z * x + x * y)) c5] 24))
          clear hc5
          clear BK hb5
          go_wp2_with fail
          refine (sub_to (x := y + z) (y := y) (z := z) h1 hm rfl HLY.out HC1.out (hY.below HB.out) hyz H7.out).mono ?_
          rintro e w6 ⟨D6, c6, rfl, hl6, hc6, hb6⟩
          clear q19 l19
          clear q20 l20
          clear q21 l21
          clear q22 l22
          clear q23 l23
          clear q24 l24
          clear q25 l25
          have BK := BX.out.keep hb6
          obtain ⟨q26, l26⟩ := BK.fact (b := W.heap.size) (S := .slice D n c) (by simp)
          obtain ⟨q27, l27⟩ := BK.fact (b := W.heap.size + 1) (S := .slice E m c') (by simp)
          obtain ⟨q28, l28⟩ := BK.fact (b := W.heap.size + 1 + 1) (S := .slice F q cq) (by simp)
          obtain ⟨q29, l29⟩ := BK.fact (b := w1.heap.size) (S := .slice D1 (L32 (y + z)) c1) (by simp)
          obtain ⟨q30, l30⟩ := BK.fact (b := w2.heap.size) (S := .slice D2 (L32 (x * (y + z))) c2) (by simp)
          obtain ⟨q31, l31⟩ := BK.fact (b := w3.heap.size) (S := .slice D3 (L32 (x * y)) c3) (by simp)
          obtain ⟨q32, l32⟩ := BK.fact (b := w4.heap.size) (S := .slice D4 (L32 (z * x)) c4) (by simp)
          obtain ⟨q33, l33⟩ := BK.fact (b := w5.heap.size) (S := .slice D5 (L32 (z * x + x * y)) c5) (by simp)
          replace BX := Lib.hid (BK.cons (.slice D6 (L32 (z)) c6))
          replace HB := Lib.hid (bl_alloc' (Below.on HB.out hb6) (.cells #[.slice D6 (L32 (z)) c6] 24))
          replace HC1 := Lib.hid ((HC1.out.below hb6).alloc (.cells #[.slice D6 (L32 (z)) c6] 24))
          replace HC2 := Lib.hid ((HC2.out.below hb6).alloc (.cells #[.slice D6 (L32 (z)) c6] 24))
          replace HC3 := Lib.hid ((HC3.out.below hb6).alloc (.cells #[.slice D6 (L32 (z)) c6] 24))
          replace HC4 := Lib.hid ((HC4.out.below hb6).alloc (.cells #[.slice D6 (L32 (z)) c6] 24))
          replace HC5 := Lib.hid ((HC5.out.below hb6).alloc (.cells #[.slice D6 (L32 (z)) c6] 24))
          have HC6 := Lib.hid (hc6.alloc (.cells #[.slice D6 (L32 (z)) c6] 24))
          clear hc6
          clear BK hb6
          go_wp2_with fail
          refine (ncmp_eq (x := z * x + x * y) (y := x * (y + z)) h6 h2 rfl rfl HC5.out HC2.out H5.out).mono ?_
          rintro e w7 ⟨rfl, hb7⟩
          clear q26 l26
          clear q27 l27
          clear q28 l28
          clear q29 l29
          clear q30 l30
          clear q31 l31
          clear q32 l32
          clear q33 l33
          have BK := BX.out.keep hb7
          obtain ⟨q34, l34⟩ := BK.fact (b := W.heap.size) (S := .slice D n c) (by simp)
          obtain ⟨q35, l35⟩ := BK.fact (b := W.heap.size + 1) (S := .slice E m c') (by simp)
          obtain ⟨q36, l36⟩ := BK.fact (b := W.heap.size + 1 + 1) (S := .slice F q cq) (by simp)
          obtain ⟨q37, l37⟩ := BK.fact (b := w1.heap.size) (S := .slice D1 (L32 (y + z)) c1) (by simp)
          obtain ⟨q38, l38⟩ := BK.fact (b := w2.heap.size) (S := .slice D2 (L32 (x * (y + z))) c2) (by simp)
          obtain ⟨q39, l39⟩ := BK.fact (b := w3.heap.size) (S := .slice D3 (L32 (x * y)) c3) (by simp)
          obtain ⟨q40, l40⟩ := BK.fact (b := w4.heap.size) (S := .slice D4 (L32 (z * x)) c4) (by simp)
          obtain ⟨q41, l41⟩ := BK.fact (b := w5.heap.size) (S := .slice D5 (L32 (z * x + x * y)) c5) (by simp)
          obtain ⟨q42, l42⟩ := BK.fact (b := w6.heap.size) (S := .slice D6 (L32 (z)) c6) (by simp)
          replace BX := Lib.hid BK
          replace HB := Lib.hid (Below.on HB.out hb7)
          replace HC1 := Lib.hid (HC1.out.below hb7)
          replace HC2 := Lib.hid (HC2.out.below hb7)
          replace HC3 := Lib.hid (HC3.out.below hb7)
          replace HC4 := Lib.hid (HC4.out.below hb7)
          replace HC5 := Lib.hid (HC5.out.below hb7)
          replace HC6 := Lib.hid (HC6.out.below hb7)
          clear BK hb7
          go_wp2_with fail
          refine (ncmp_eq (x := z) (y := z) h8 hq rfl HLZ.out HC6.out (hZ.below HB.out) rfl).mono ?_
          rintro e w8 ⟨rfl, hb8⟩
          clear q34 l34
          clear q35 l35
          clear q36 l36
          clear q37 l37
          clear q38 l38
          clear q39 l39
          clear q40 l40
          clear q41 l41
          clear q42 l42
          have BK := BX.out.keep hb8
          obtain ⟨q43, l43⟩ := BK.fact (b := W.heap.size) (S := .slice D n c) (by simp)
          obtain ⟨q44, l44⟩ := BK.fact (b := W.heap.size + 1) (S := .slice E m c') (by simp)
          obtain ⟨q45, l45⟩ := BK.fact (b := W.heap.size + 1 + 1) (S := .slice F q cq) (by simp)
          obtain ⟨q46, l46⟩ := BK.fact (b := w1.heap.size) (S := .slice D1 (L32 (y + z)) c1) (by simp)
          obtain ⟨q47, l47⟩ := BK.fact (b := w2.heap.size) (S := .slice D2 (L32 (x * (y + z))) c2) (by simp)
          obtain ⟨q48, l48⟩ := BK.fact (b := w3.heap.size) (S := .slice D3 (L32 (x * y)) c3) (by simp)
          obtain ⟨q49, l49⟩ := BK.fact (b := w4.heap.size) (S := .slice D4 (L32 (z * x)) c4) (by simp)
          obtain ⟨q50, l50⟩ := BK.fact (b := w5.heap.size) (S := .slice D5 (L32 (z * x + x * y)) c5) (by simp)
          obtain ⟨q51, l51⟩ := BK.fact (b := w6.heap.size) (S := .slice D6 (L32 (z)) c6) (by simp)
          replace BX := Lib.hid BK
          replace HB := Lib.hid (Below.on HB.out hb8)
          replace HC1 := Lib.hid (HC1.out.below hb8)
          replace HC2 := Lib.hid (HC2.out.below hb8)
          replace HC3 := Lib.hid (HC3.out.below hb8)
          replace HC4 := Lib.hid (HC4.out.below hb8)
          replace HC5 := Lib.hid (HC5.out.below hb8)
          replace HC6 := Lib.hid (HC6.out.below hb8)
          clear BK hb8
          go_wp2_with fail
          refine (multiplied_any _).mono ?_
          rintro e w9 ⟨rfl, hb9⟩
          clear q43 l43
          clear q44 l44
          clear q45 l45
          clear q46 l46
          clear q47 l47
          clear q48 l48
          clear q49 l49
          clear q50 l50
          clear q51 l51
          have BK := BX.out.keep hb9
          obtain ⟨q52, l52⟩ := BK.fact (b := W.heap.size) (S := .slice D n c) (by simp)
          obtain ⟨q53, l53⟩ := BK.fact (b := W.heap.size + 1) (S := .slice E m c') (by simp)
          obtain ⟨q54, l54⟩ := BK.fact (b := W.heap.size + 1 + 1) (S := .slice F q cq) (by simp)
          obtain ⟨q55, l55⟩ := BK.fact (b := w1.heap.size) (S := .slice D1 (L32 (y + z)) c1) (by simp)
          obtain ⟨q56, l56⟩ := BK.fact (b := w2.heap.size) (S := .slice D2 (L32 (x * (y + z))) c2) (by simp)
          obtain ⟨q57, l57⟩ := BK.fact (b := w3.heap.size) (S := .slice D3 (L32 (x * y)) c3) (by simp)
          obtain ⟨q58, l58⟩ := BK.fact (b := w4.heap.size) (S := .slice D4 (L32 (z * x)) c4) (by simp)
          obtain ⟨q59, l59⟩ := BK.fact (b := w5.heap.size) (S := .slice D5 (L32 (z * x + x * y)) c5) (by simp)
          obtain ⟨q60, l60⟩ := BK.fact (b := w6.heap.size) (S := .slice D6 (L32 (z)) c6) (by simp)
          replace BX := Lib.hid BK
          replace HB := Lib.hid (Below.on HB.out hb9)
          replace HC1 := Lib.hid (HC1.out.below hb9)
          replace HC2 := Lib.hid (HC2.out.below hb9)
          replace HC3 := Lib.hid (HC3.out.below hb9)
          replace HC4 := Lib.hid (HC4.out.below hb9)
          replace HC5 := Lib.hid (HC5.out.below hb9)
          replace HC6 := Lib.hid (HC6.out.below hb9)
          clear BK hb9
          go_wp2
          go_ret
          exact ⟨rfl, HB.out⟩
        · have h2 : 64 < L32 (x * (y + z)) := by omega
          have BX := Lib.hid ((((((Bxs.nil W).cons (.slice D n c))).cons (.slice E m c'))).cons (.slice F q cq))
          have HB := Lib.hid (bl_alloc' (bl_alloc' (bl_alloc' (Below.refl W.heap.size W) (.cells #[.slice D n c] 24)) (.cells #[.slice E m c'] 24)) (.cells #[.slice F q cq] 24))
          go_enter Try.func7, Try.ntmps7
          go_wp2_with fail
          refine (res_yes (add_any (x := y) (y := z) hm hq HLY.out HLZ.out (hY.below HB.out) (hZ.below HB.out)) h1).mono ?_
          rintro e w1 ⟨D1, c1, rfl, hl1, hc1, hb1⟩
          have BK := BX.out.keep hb1
          obtain ⟨q1, l1⟩ := BK.fact (b := W.heap.size) (S := .slice D n c) (by simp)
          obtain ⟨q2, l2⟩ := BK.fact (b := W.heap.size + 1) (S := .slice E m c') (by simp)
          obtain ⟨q3, l3⟩ := BK.fact (b := W.heap.size + 1 + 1) (S := .slice F q cq) (by simp)
          replace BX := Lib.hid (BK.cons (.slice D1 (L32 (y + z)) c1))
          replace HB := Lib.hid (bl_alloc' (Below.on HB.out hb1) (.cells #[.slice D1 (L32 (y + z)) c1] 24))
          have HC1 := Lib.hid (hc1.alloc (.cells #[.slice D1 (L32 (y + z)) c1] 24))
          clear hc1
          clear BK hb1
          go_wp2_with fail
          refine (res_no (mul_any (x := x) (y := y + z) hn h1 HLX.out rfl (hX.below HB.out) HC1.out) h2).mono ?_
          rintro e w2 ⟨rfl, hb2⟩
          clear q1 l1
          clear q2 l2
          clear q3 l3
          have BK := BX.out.keep hb2
          obtain ⟨q4, l4⟩ := BK.fact (b := W.heap.size) (S := .slice D n c) (by simp)
          obtain ⟨q5, l5⟩ := BK.fact (b := W.heap.size + 1) (S := .slice E m c') (by simp)
          obtain ⟨q6, l6⟩ := BK.fact (b := W.heap.size + 1 + 1) (S := .slice F q cq) (by simp)
          obtain ⟨q7, l7⟩ := BK.fact (b := w1.heap.size) (S := .slice D1 (L32 (y + z)) c1) (by simp)
          replace BX := Lib.hid (BK.cons (.slice none 0 0))
          replace HB := Lib.hid (bl_alloc' (Below.on HB.out hb2) (.cells #[.slice none 0 0] 24))
          replace HC1 := Lib.hid ((HC1.out.below hb2).alloc (.cells #[.slice none 0 0] 24))
          clear BK hb2
          go_wp2_with fail
          refine (multiplied_any _).mono ?_
          rintro e w3 ⟨rfl, hb3⟩
          clear q4 l4
          clear q5 l5
          clear q6 l6
          clear q7 l7
          have BK := BX.out.keep hb3
          obtain ⟨q8, l8⟩ := BK.fact (b := W.heap.size) (S := .slice D n c) (by simp)
          obtain ⟨q9, l9⟩ := BK.fact (b := W.heap.size + 1) (S := .slice E m c') (by simp)
          obtain ⟨q10, l10⟩ := BK.fact (b := W.heap.size + 1 + 1) (S := .slice F q cq) (by simp)
          obtain ⟨q11, l11⟩ := BK.fact (b := w1.heap.size) (S := .slice D1 (L32 (y + z)) c1) (by simp)
          obtain ⟨q12, l12⟩ := BK.fact (b := w2.heap.size) (S := .slice none 0 0) (by simp)
          replace BX := Lib.hid BK
          replace HB := Lib.hid (Below.on HB.out hb3)
          replace HC1 := Lib.hid (HC1.out.below hb3)
          clear BK hb3
          go_wp2
          go_ret
          exact ⟨rfl, HB.out⟩
      · have h1 : 64 < L32 (y + z) := by omega
        have BX := Lib.hid ((((((Bxs.nil W).cons (.slice D n c))).cons (.slice E m c'))).cons (.slice F q cq))
        have HB := Lib.hid (bl_alloc' (bl_alloc' (bl_alloc' (Below.refl W.heap.size W) (.cells #[.slice D n c] 24)) (.cells #[.slice E m c'] 24)) (.cells #[.slice F q cq] 24))
        go_enter Try.func7, Try.ntmps7
        go_wp2_with fail
        refine (res_no (add_any (x := y) (y := z) hm hq HLY.out HLZ.out (hY.below HB.out) (hZ.below HB.out)) h1).mono ?_
        rintro e w1 ⟨rfl, hb1⟩
        have BK := BX.out.keep hb1
        obtain ⟨q1, l1⟩ := BK.fact (b := W.heap.size) (S := .slice D n c) (by simp)
        obtain ⟨q2, l2⟩ := BK.fact (b := W.heap.size + 1) (S := .slice E m c') (by simp)
        obtain ⟨q3, l3⟩ := BK.fact (b := W.heap.size + 1 + 1) (S := .slice F q cq) (by simp)
        replace BX := Lib.hid (BK.cons (.slice none 0 0))
        replace HB := Lib.hid (bl_alloc' (Below.on HB.out hb1) (.cells #[.slice none 0 0] 24))
        clear BK hb1
        go_wp2_with fail
        refine (res_yes (mul_any (x := x) (y := 0) hn (by omega) HLX.out zero_num (hX.below HB.out) cells_zero) (by rw [Nat.mul_zero]; rw [← zero_num]; omega)).mono ?_
        rintro e w2 ⟨D2, c2, rfl, hl2, hc2, hb2⟩
        clear q1 l1
        clear q2 l2
        clear q3 l3
        have BK := BX.out.keep hb2
        obtain ⟨q4, l4⟩ := BK.fact (b := W.heap.size) (S := .slice D n c) (by simp)
        obtain ⟨q5, l5⟩ := BK.fact (b := W.heap.size + 1) (S := .slice E m c') (by simp)
        obtain ⟨q6, l6⟩ := BK.fact (b := W.heap.size + 1 + 1) (S := .slice F q cq) (by simp)
        obtain ⟨q7, l7⟩ := BK.fact (b := w1.heap.size) (S := .slice none 0 0) (by simp)
        replace BX := Lib.hid (BK.cons (.slice D2 (L32 (x * 0)) c2))
        replace HB := Lib.hid (bl_alloc' (Below.on HB.out hb2) (.cells #[.slice D2 (L32 (x * 0)) c2] 24))
        have HC2 := Lib.hid (hc2.alloc (.cells #[.slice D2 (L32 (x * 0)) c2] 24))
        clear hc2
        clear BK hb2
        go_wp2_with fail
        refine (multiplied_any _).mono ?_
        rintro e w3 ⟨rfl, hb3⟩
        clear q4 l4
        clear q5 l5
        clear q6 l6
        clear q7 l7
        have BK := BX.out.keep hb3
        obtain ⟨q8, l8⟩ := BK.fact (b := W.heap.size) (S := .slice D n c) (by simp)
        obtain ⟨q9, l9⟩ := BK.fact (b := W.heap.size + 1) (S := .slice E m c') (by simp)
        obtain ⟨q10, l10⟩ := BK.fact (b := W.heap.size + 1 + 1) (S := .slice F q cq) (by simp)
        obtain ⟨q11, l11⟩ := BK.fact (b := w1.heap.size) (S := .slice none 0 0) (by simp)
        obtain ⟨q12, l12⟩ := BK.fact (b := w2.heap.size) (S := .slice D2 (L32 (x * 0)) c2) (by simp)
        replace BX := Lib.hid BK
        replace HB := Lib.hid (Below.on HB.out hb3)
        replace HC2 := Lib.hid (HC2.out.below hb3)
        clear BK hb3
        go_wp2
        go_ret
        exact ⟨rfl, HB.out⟩
    · have hbad : Hid (vd m g = false ∨ vd m g = true ∧ vd q h = false) := by
        cases h1 : vd m g with
        | false => exact .inl rfl
        | true => exact .inr ⟨rfl, by cases h2 : vd q h with | false => rfl | true => exact absurd ⟨h1, h2⟩ hv⟩
      clear hv hg hh
      have BX := Lib.hid ((((((Bxs.nil W).cons (.slice D n c))).cons (.slice E m c'))).cons (.slice F q cq))
      have HB := Lib.hid (bl_alloc' (bl_alloc' (bl_alloc' (Below.refl W.heap.size W) (.cells #[.slice D n c] 24)) (.cells #[.slice E m c'] 24)) (.cells #[.slice F q cq] 24))
      go_enter Try.func7, Try.ntmps7
      go_wp2_with fail
      refine (res_bad (add_bad (f := g) (g := h) hm9 hq9 (hE.below HB.out) (hF.below HB.out) hbad.out)).mono ?_
      rintro e w1 ⟨rfl, hb1⟩
      have BK := BX.out.keep hb1
      obtain ⟨q1, l1⟩ := BK.fact (b := W.heap.size) (S := .slice D n c) (by simp)
      obtain ⟨q2, l2⟩ := BK.fact (b := W.heap.size + 1) (S := .slice E m c') (by simp)
      obtain ⟨q3, l3⟩ := BK.fact (b := W.heap.size + 1 + 1) (S := .slice F q cq) (by simp)
      replace BX := Lib.hid (BK.cons (.slice none 0 0))
      replace HB := Lib.hid (bl_alloc' (Below.on HB.out hb1) (.cells #[.slice none 0 0] 24))
      clear BK hb1
      go_wp2_with fail
      refine (res_yes (mul_any (x := x) (y := 0) hn (by omega) HLX.out zero_num (hX.below HB.out) cells_zero) (by rw [Nat.mul_zero]; rw [← zero_num]; omega)).mono ?_
      rintro e w2 ⟨D2, c2, rfl, hl2, hc2, hb2⟩
      clear q1 l1
      clear q2 l2
      clear q3 l3
      have BK := BX.out.keep hb2
      obtain ⟨q4, l4⟩ := BK.fact (b := W.heap.size) (S := .slice D n c) (by simp)
      obtain ⟨q5, l5⟩ := BK.fact (b := W.heap.size + 1) (S := .slice E m c') (by simp)
      obtain ⟨q6, l6⟩ := BK.fact (b := W.heap.size + 1 + 1) (S := .slice F q cq) (by simp)
      obtain ⟨q7, l7⟩ := BK.fact (b := w1.heap.size) (S := .slice none 0 0) (by simp)
      replace BX := Lib.hid (BK.cons (.slice D2 (L32 (x * 0)) c2))
      replace HB := Lib.hid (bl_alloc' (Below.on HB.out hb2) (.cells #[.slice D2 (L32 (x * 0)) c2] 24))
      have HC2 := Lib.hid (hc2.alloc (.cells #[.slice D2 (L32 (x * 0)) c2] 24))
      clear hc2
      clear BK hb2
      go_wp2_with fail
      refine (multiplied_any _).mono ?_
      rintro e w3 ⟨rfl, hb3⟩
      clear q4 l4
      clear q5 l5
      clear q6 l6
      clear q7 l7
      have BK := BX.out.keep hb3
      obtain ⟨q8, l8⟩ := BK.fact (b := W.heap.size) (S := .slice D n c) (by simp)
      obtain ⟨q9, l9⟩ := BK.fact (b := W.heap.size + 1) (S := .slice E m c') (by simp)
      obtain ⟨q10, l10⟩ := BK.fact (b := W.heap.size + 1 + 1) (S := .slice F q cq) (by simp)
      obtain ⟨q11, l11⟩ := BK.fact (b := w1.heap.size) (S := .slice none 0 0) (by simp)
      obtain ⟨q12, l12⟩ := BK.fact (b := w2.heap.size) (S := .slice D2 (L32 (x * 0)) c2) (by simp)
      replace BX := Lib.hid BK
      replace HB := Lib.hid (Below.on HB.out hb3)
      replace HC2 := Lib.hid (HC2.out.below hb3)
      clear BK hb3
      go_wp2
      go_ret
      exact ⟨rfl, HB.out⟩
  | false =>
    by_cases hv : vd m g = true ∧ vd q h = true
    · obtain ⟨hm, hLy, hY⟩ := num_of hE hg hv.1
      obtain ⟨hq, hLz, hZ⟩ := num_of hF hh hv.2
      generalize v32 g m = y at *
      generalize v32 h q = z at *
      have HLY := Lib.hid hLy
      have HLZ := Lib.hid hLz
      have HVA := Lib.hid hva
      clear hva hv hg hh hE hF hLy hLz
      by_cases h1 : L32 (y + z) ≤ 64
      · have BX := Lib.hid ((((((Bxs.nil W).cons (.slice D n c))).cons (.slice E m c'))).cons (.slice F q cq))
        have HB := Lib.hid (bl_alloc' (bl_alloc' (bl_alloc' (Below.refl W.heap.size W) (.cells #[.slice D n c] 24)) (.cells #[.slice E m c'] 24)) (.cells #[.slice F q cq] 24))
        go_enter Try.func7, Try.ntmps7
        go_wp2_with fail
        refine (res_yes (add_any (x := y) (y := z) hm hq HLY.out HLZ.out (hY.below HB.out) (hZ.below HB.out)) h1).mono ?_
        rintro e w1 ⟨D1, c1, rfl, hl1, hc1, hb1⟩
        have BK := BX.out.keep hb1
        obtain ⟨q1, l1⟩ := BK.fact (b := W.heap.size) (S := .slice D n c) (by simp)
        obtain ⟨q2, l2⟩ := BK.fact (b := W.heap.size + 1) (S := .slice E m c') (by simp)
        obtain ⟨q3, l3⟩ := BK.fact (b := W.heap.size + 1 + 1) (S := .slice F q cq) (by simp)
        replace BX := Lib.hid (BK.cons (.slice D1 (L32 (y + z)) c1))
        replace HB := Lib.hid (bl_alloc' (Below.on HB.out hb1) (.cells #[.slice D1 (L32 (y + z)) c1] 24))
        have HC1 := Lib.hid (hc1.alloc (.cells #[.slice D1 (L32 (y + z)) c1] 24))
        clear hc1
        clear BK hb1
        go_wp2_with fail
        refine (res_bad (mul_bad (f := f) (g := d32 (y + z)) hn9 (by omega) (hD.below HB.out) HC1.out (.inl HVA.out))).mono ?_
        rintro e w2 ⟨rfl, hb2⟩
        clear q1 l1
        clear q2 l2
        clear q3 l3
        have BK := BX.out.keep hb2
        obtain ⟨q4, l4⟩ := BK.fact (b := W.heap.size) (S := .slice D n c) (by simp)
        obtain ⟨q5, l5⟩ := BK.fact (b := W.heap.size + 1) (S := .slice E m c') (by simp)
        obtain ⟨q6, l6⟩ := BK.fact (b := W.heap.size + 1 + 1) (S := .slice F q cq) (by simp)
        obtain ⟨q7, l7⟩ := BK.fact (b := w1.heap.size) (S := .slice D1 (L32 (y + z)) c1) (by simp)
        replace BX := Lib.hid (BK.cons (.slice none 0 0))
        replace HB := Lib.hid (bl_alloc' (Below.on HB.out hb2) (.cells #[.slice none 0 0] 24))
        replace HC1 := Lib.hid ((HC1.out.below hb2).alloc (.cells #[.slice none 0 0] 24))
        clear BK hb2
        go_wp2_with fail
        refine (multiplied_any _).mono ?_
        rintro e w3 ⟨rfl, hb3⟩
        clear q4 l4
        clear q5 l5
        clear q6 l6
        clear q7 l7
        have BK := BX.out.keep hb3
        obtain ⟨q8, l8⟩ := BK.fact (b := W.heap.size) (S := .slice D n c) (by simp)
        obtain ⟨q9, l9⟩ := BK.fact (b := W.heap.size + 1) (S := .slice E m c') (by simp)
        obtain ⟨q10, l10⟩ := BK.fact (b := W.heap.size + 1 + 1) (S := .slice F q cq) (by simp)
        obtain ⟨q11, l11⟩ := BK.fact (b := w1.heap.size) (S := .slice D1 (L32 (y + z)) c1) (by simp)
        obtain ⟨q12, l12⟩ := BK.fact (b := w2.heap.size) (S := .slice none 0 0) (by simp)
        replace BX := Lib.hid BK
        replace HB := Lib.hid (Below.on HB.out hb3)
        replace HC1 := Lib.hid (HC1.out.below hb3)
        clear BK hb3
        go_wp2
        go_ret
        exact ⟨rfl, HB.out⟩
      · have h1 : 64 < L32 (y + z) := by omega
        have BX := Lib.hid ((((((Bxs.nil W).cons (.slice D n c))).cons (.slice E m c'))).cons (.slice F q cq))
        have HB := Lib.hid (bl_alloc' (bl_alloc' (bl_alloc' (Below.refl W.heap.size W) (.cells #[.slice D n c] 24)) (.cells #[.slice E m c'] 24)) (.cells #[.slice F q cq] 24))
        go_enter Try.func7, Try.ntmps7
        go_wp2_with fail
        refine (res_no (add_any (x := y) (y := z) hm hq HLY.out HLZ.out (hY.below HB.out) (hZ.below HB.out)) h1).mono ?_
        rintro e w1 ⟨rfl, hb1⟩
        have BK := BX.out.keep hb1
        obtain ⟨q1, l1⟩ := BK.fact (b := W.heap.size) (S := .slice D n c) (by simp)
        obtain ⟨q2, l2⟩ := BK.fact (b := W.heap.size + 1) (S := .slice E m c') (by simp)
        obtain ⟨q3, l3⟩ := BK.fact (b := W.heap.size + 1 + 1) (S := .slice F q cq) (by simp)
        replace BX := Lib.hid (BK.cons (.slice none 0 0))
        replace HB := Lib.hid (bl_alloc' (Below.on HB.out hb1) (.cells #[.slice none 0 0] 24))
        clear BK hb1
        go_wp2_with fail
        refine (res_bad (mul_bad (f := f) (g := fun _ => 0) hn9 (by omega) (hD.below HB.out) cells_zero (.inl HVA.out))).mono ?_
        rintro e w2 ⟨rfl, hb2⟩
        clear q1 l1
        clear q2 l2
        clear q3 l3
        have BK := BX.out.keep hb2
        obtain ⟨q4, l4⟩ := BK.fact (b := W.heap.size) (S := .slice D n c) (by simp)
        obtain ⟨q5, l5⟩ := BK.fact (b := W.heap.size + 1) (S := .slice E m c') (by simp)
        obtain ⟨q6, l6⟩ := BK.fact (b := W.heap.size + 1 + 1) (S := .slice F q cq) (by simp)
        obtain ⟨q7, l7⟩ := BK.fact (b := w1.heap.size) (S := .slice none 0 0) (by simp)
        replace BX := Lib.hid (BK.cons (.slice none 0 0))
        replace HB := Lib.hid (bl_alloc' (Below.on HB.out hb2) (.cells #[.slice none 0 0] 24))
        clear BK hb2
        go_wp2_with fail
        refine (multiplied_any _).mono ?_
        rintro e w3 ⟨rfl, hb3⟩
        clear q4 l4
        clear q5 l5
        clear q6 l6
        clear q7 l7
        have BK := BX.out.keep hb3
        obtain ⟨q8, l8⟩ := BK.fact (b := W.heap.size) (S := .slice D n c) (by simp)
        obtain ⟨q9, l9⟩ := BK.fact (b := W.heap.size + 1) (S := .slice E m c') (by simp)
        obtain ⟨q10, l10⟩ := BK.fact (b := W.heap.size + 1 + 1) (S := .slice F q cq) (by simp)
        obtain ⟨q11, l11⟩ := BK.fact (b := w1.heap.size) (S := .slice none 0 0) (by simp)
        obtain ⟨q12, l12⟩ := BK.fact (b := w2.heap.size) (S := .slice none 0 0) (by simp)
        replace BX := Lib.hid BK
        replace HB := Lib.hid (Below.on HB.out hb3)
        clear BK hb3
        go_wp2
        go_ret
        exact ⟨rfl, HB.out⟩
    · have HVA := Lib.hid hva
      clear hva
      have hbad : Hid (vd m g = false ∨ vd m g = true ∧ vd q h = false) := by
        cases h1 : vd m g with
        | false => exact .inl rfl
        | true => exact .inr ⟨rfl, by cases h2 : vd q h with | false => rfl | true => exact absurd ⟨h1, h2⟩ hv⟩
      clear hv hg hh
      have BX := Lib.hid ((((((Bxs.nil W).cons (.slice D n c))).cons (.slice E m c'))).cons (.slice F q cq))
      have HB := Lib.hid (bl_alloc' (bl_alloc' (bl_alloc' (Below.refl W.heap.size W) (.cells #[.slice D n c] 24)) (.cells #[.slice E m c'] 24)) (.cells #[.slice F q cq] 24))
      go_enter Try.func7, Try.ntmps7
      go_wp2_with fail
      refine (res_bad (add_bad (f := g) (g := h) hm9 hq9 (hE.below HB.out) (hF.below HB.out) hbad.out)).mono ?_
      rintro e w1 ⟨rfl, hb1⟩
      have BK := BX.out.keep hb1
      obtain ⟨q1, l1⟩ := BK.fact (b := W.heap.size) (S := .slice D n c) (by simp)
      obtain ⟨q2, l2⟩ := BK.fact (b := W.heap.size + 1) (S := .slice E m c') (by simp)
      obtain ⟨q3, l3⟩ := BK.fact (b := W.heap.size + 1 + 1) (S := .slice F q cq) (by simp)
      replace BX := Lib.hid (BK.cons (.slice none 0 0))
      replace HB := Lib.hid (bl_alloc' (Below.on HB.out hb1) (.cells #[.slice none 0 0] 24))
      clear BK hb1
      go_wp2_with fail
      refine (res_bad (mul_bad (f := f) (g := fun _ => 0) hn9 (by omega) (hD.below HB.out) cells_zero (.inl HVA.out))).mono ?_
      rintro e w2 ⟨rfl, hb2⟩
      clear q1 l1
      clear q2 l2
      clear q3 l3
      have BK := BX.out.keep hb2
      obtain ⟨q4, l4⟩ := BK.fact (b := W.heap.size) (S := .slice D n c) (by simp)
      obtain ⟨q5, l5⟩ := BK.fact (b := W.heap.size + 1) (S := .slice E m c') (by simp)
      obtain ⟨q6, l6⟩ := BK.fact (b := W.heap.size + 1 + 1) (S := .slice F q cq) (by simp)
      obtain ⟨q7, l7⟩ := BK.fact (b := w1.heap.size) (S := .slice none 0 0) (by simp)
      replace BX := Lib.hid (BK.cons (.slice none 0 0))
      replace HB := Lib.hid (bl_alloc' (Below.on HB.out hb2) (.cells #[.slice none 0 0] 24))
      clear BK hb2
      go_wp2_with fail
      refine (multiplied_any _).mono ?_
      rintro e w3 ⟨rfl, hb3⟩
      clear q4 l4
      clear q5 l5
      clear q6 l6
      clear q7 l7
      have BK := BX.out.keep hb3
      obtain ⟨q8, l8⟩ := BK.fact (b := W.heap.size) (S := .slice D n c) (by simp)
      obtain ⟨q9, l9⟩ := BK.fact (b := W.heap.size + 1) (S := .slice E m c') (by simp)
      obtain ⟨q10, l10⟩ := BK.fact (b := W.heap.size + 1 + 1) (S := .slice F q cq) (by simp)
      obtain ⟨q11, l11⟩ := BK.fact (b := w1.heap.size) (S := .slice none 0 0) (by simp)
      obtain ⟨q12, l12⟩ := BK.fact (b := w2.heap.size) (S := .slice none 0 0) (by simp)
      replace BX := Lib.hid BK
      replace HB := Lib.hid (Below.on HB.out hb3)
      clear BK hb3
      go_wp2
      go_ret
      exact ⟨rfl, HB.out⟩
end Go.Proofs.Ythjbkadhgcjnaaa
