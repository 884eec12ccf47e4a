/- The walk of the law NatQuotients. -/
import Derived.Test.YthjbkadhgcjnaaaNatRQuo
import Derived.Test.YthjbkadhgcjnaaaNatRDivBad
import Derived.Test.YthjbkadhgcjnaaaNatFew
import Derived.Test.YthjbkadhgcjnaaaNatLawDivides
set_option linter.unusedVariables false
namespace Go.Proofs.Ythjbkadhgcjnaaa
open Go.RowKit

theorem refDiv_to {D E : Option Addr} {n m c c' x y q r : Nat} {w : World} (hn : n ≤ 64) (hm : m ≤ 64) (hnx : n = L32 x) (hmy : m = L32 y) (hx : Cells w D n (Lm (d32 x))) (hy : Cells w E m (Lm (d32 y))) (hy0 : 0 < y) (hq : x / y = q) (hr : x % y = r) :
    Calls Try.prog 37 #[.agg #[.slice D n c], .agg #[.slice E m c']] w fun e w' => ∃ Dq cq Dr cr, e = .returned (.tuple #[.agg #[.slice Dq (L32 q) cq], .agg #[.slice Dr (L32 r) cr], .int .i64 0]) ∧ Cells w' Dq (L32 q) (Lm (d32 q)) ∧ Cells w' Dr (L32 r) (Lm (d32 r)) ∧ Below w.heap.size w w' := by
  subst hq hr
  exact div_res (refDivmod_any hn hm hnx hmy hx hy hy0)
set_option maxHeartbeats 4000000 in
set_option maxRecDepth 100000 in
theorem natQuotients_walk (W : World) {D E : Option Addr} {n c m c' : Nat} {f g : Nat → Nat} (hnc : n ≤ c) (hc : c ≤ maxLen) (hD : Cells W D n (Lm f)) (hf : ∀ j, j < n → f j < 4294967296) (hmc : m ≤ c') (hc' : c' ≤ maxLen) (hE : Cells W E m (Lm g)) (hg : ∀ j, j < m → g j < 4294967296) :
    Calls Try.prog 8 #[natv D n c, natv E m c'] W fun e w' => e = .returned (.bool true) ∧ Below W.heap.size W w' := by
  have hn9 : n ≤ 9223372036854775807 := by unfold maxLen at hc; omega
  have hm9 : m ≤ 9223372036854775807 := by unfold maxLen at hc'; omega
  clear hnc hc hmc hc'
  unfold natv
  by_cases hfew : n ≤ 70 ∧ m ≤ 70
  · obtain ⟨hn70, hm70⟩ := hfew
    cases hva : vd n f with
    | false =>
      have HVA := Lib.hid hva
      clear hva hf hg
      have BX := Lib.hid ((((Bxs.nil W).cons (.slice D n c))).cons (.slice E m c'))
      have HB := Lib.hid (bl_alloc' (bl_alloc' (Below.refl W.heap.size W) (.cells #[.slice D n c] 24)) (.cells #[.slice E m c'] 24))
      go_enter Try.func8, Try.ntmps8
      go_wp2_with fail
      refine (nfew_yes hn70 hm70 _).mono ?_
      rintro e w1 ⟨rfl, hb1⟩
      have BK := BX.out.keep hb1
      obtain ⟨q1, l1⟩ := BK.fact (b := W.heap.size) (S := .slice D n c) (by simp)
      obtain ⟨q2, l2⟩ := BK.fact (b := W.heap.size + 1) (S := .slice E m c') (by simp)
      replace BX := Lib.hid BK
      replace HB := Lib.hid (Below.on HB.out hb1)
      clear BK hb1
      go_wp2_with fail
      refine (divmod_bad (f := f) (g := g) hn9 hm9 (hD.below HB.out) (hE.below HB.out) (.inl HVA.out)).mono ?_
      rintro e w2 ⟨rfl, hb2⟩
      clear q1 l1
      clear q2 l2
      have BK := BX.out.keep hb2
      obtain ⟨q3, l3⟩ := BK.fact (b := W.heap.size) (S := .slice D n c) (by simp)
      obtain ⟨q4, l4⟩ := BK.fact (b := W.heap.size + 1) (S := .slice E m c') (by simp)
      replace BX := Lib.hid ((BK.cons (.slice none 0 0)).cons (.slice none 0 0))
      replace HB := Lib.hid (bl_alloc' (bl_alloc' (Below.on HB.out hb2) (.cells #[.slice none 0 0] 24)) (.cells #[.slice none 0 0] 24))
      clear BK hb2
      go_wp2_with fail
      refine (refDivmod_bad (f := f) (g := g) hn9 hm9 (hD.below HB.out) (hE.below HB.out) (.inl HVA.out)).mono ?_
      rintro e w3 ⟨rfl, hb3⟩
      clear q3 l3
      clear q4 l4
      have BK := BX.out.keep hb3
      obtain ⟨q5, l5⟩ := BK.fact (b := W.heap.size) (S := .slice D n c) (by simp)
      obtain ⟨q6, l6⟩ := BK.fact (b := W.heap.size + 1) (S := .slice E m c') (by simp)
      obtain ⟨q7, l7⟩ := BK.fact (b := w2.heap.size) (S := .slice none 0 0) (by simp)
      obtain ⟨q8, l8⟩ := BK.fact (b := w2.heap.size + 1) (S := .slice none 0 0) (by simp)
      replace BX := Lib.hid ((BK.cons (.slice none 0 0)).cons (.slice none 0 0))
      replace HB := Lib.hid (bl_alloc' (bl_alloc' (Below.on HB.out hb3) (.cells #[.slice none 0 0] 24)) (.cells #[.slice none 0 0] 24))
      clear BK hb3
      go_wp2_with fail
      refine (same_yes (n := 0) (f := fun _ => 0) (by omega) Cells.nil Cells.nil).mono ?_
      rintro e w4 ⟨rfl, hb4⟩
      clear q5 l5
      clear q6 l6
      clear q7 l7
      clear q8 l8
      have BK := BX.out.keep hb4
      obtain ⟨q9, l9⟩ := BK.fact (b := W.heap.size) (S := .slice D n c) (by simp)
      obtain ⟨q10, l10⟩ := BK.fact (b := W.heap.size + 1) (S := .slice E m c') (by simp)
      obtain ⟨q11, l11⟩ := BK.fact (b := w2.heap.size) (S := .slice none 0 0) (by simp)
      obtain ⟨q12, l12⟩ := BK.fact (b := w2.heap.size + 1) (S := .slice none 0 0) (by simp)
      obtain ⟨q13, l13⟩ := BK.fact (b := w3.heap.size) (S := .slice none 0 0) (by simp)
      obtain ⟨q14, l14⟩ := BK.fact (b := w3.heap.size + 1) (S := .slice none 0 0) (by simp)
      replace BX := Lib.hid BK
      replace HB := Lib.hid (Below.on HB.out hb4)
      clear BK hb4
      go_wp2_with fail
      refine (same_yes (n := 0) (f := fun _ => 0) (by omega) Cells.nil Cells.nil).mono ?_
      rintro e w5 ⟨rfl, hb5⟩
      clear q9 l9
      clear q10 l10
      clear q11 l11
      clear q12 l12
      clear q13 l13
      clear q14 l14
      have BK := BX.out.keep hb5
      obtain ⟨q15, l15⟩ := BK.fact (b := W.heap.size) (S := .slice D n c) (by simp)
      obtain ⟨q16, l16⟩ := BK.fact (b := W.heap.size + 1) (S := .slice E m c') (by simp)
      obtain ⟨q17, l17⟩ := BK.fact (b := w2.heap.size) (S := .slice none 0 0) (by simp)
      obtain ⟨q18, l18⟩ := BK.fact (b := w2.heap.size + 1) (S := .slice none 0 0) (by simp)
      obtain ⟨q19, l19⟩ := BK.fact (b := w3.heap.size) (S := .slice none 0 0) (by simp)
      obtain ⟨q20, l20⟩ := BK.fact (b := w3.heap.size + 1) (S := .slice none 0 0) (by simp)
      replace BX := Lib.hid BK
      replace HB := Lib.hid (Below.on HB.out hb5)
      clear BK hb5
      go_wp2_with fail
      refine (divided_any _).mono ?_
      rintro e w6 ⟨rfl, hb6⟩
      clear q15 l15
      clear q16 l16
      clear q17 l17
      clear q18 l18
      clear q19 l19
      clear q20 l20
      have BK := BX.out.keep hb6
      obtain ⟨q21, l21⟩ := BK.fact (b := W.heap.size) (S := .slice D n c) (by simp)
      obtain ⟨q22, l22⟩ := BK.fact (b := W.heap.size + 1) (S := .slice E m c') (by simp)
      obtain ⟨q23, l23⟩ := BK.fact (b := w2.heap.size) (S := .slice none 0 0) (by simp)
      obtain ⟨q24, l24⟩ := BK.fact (b := w2.heap.size + 1) (S := .slice none 0 0) (by simp)
      obtain ⟨q25, l25⟩ := BK.fact (b := w3.heap.size) (S := .slice none 0 0) (by simp)
      obtain ⟨q26, l26⟩ := BK.fact (b := w3.heap.size + 1) (S := .slice none 0 0) (by simp)
      replace BX := Lib.hid BK
      replace HB := Lib.hid (Below.on HB.out hb6)
      clear BK hb6
      go_wp2
      go_ret
      exact ⟨rfl, HB.out⟩
    | true =>
      cases hvb : vd m g with
      | false =>
        have HVA := Lib.hid hva
        have HVB := Lib.hid hvb
        clear hva hvb hf hg
        have BX := Lib.hid ((((Bxs.nil W).cons (.slice D n c))).cons (.slice E m c'))
        have HB := Lib.hid (bl_alloc' (bl_alloc' (Below.refl W.heap.size W) (.cells #[.slice D n c] 24)) (.cells #[.slice E m c'] 24))
        go_enter Try.func8, Try.ntmps8
        go_wp2_with fail
        refine (nfew_yes hn70 hm70 _).mono ?_
        rintro e w1 ⟨rfl, hb1⟩
        have BK := BX.out.keep hb1
        obtain ⟨q1, l1⟩ := BK.fact (b := W.heap.size) (S := .slice D n c) (by simp)
        obtain ⟨q2, l2⟩ := BK.fact (b := W.heap.size + 1) (S := .slice E m c') (by simp)
        replace BX := Lib.hid BK
        replace HB := Lib.hid (Below.on HB.out hb1)
        clear BK hb1
        go_wp2_with fail
        refine (divmod_bad (f := f) (g := g) hn9 hm9 (hD.below HB.out) (hE.below HB.out) (.inr ⟨HVA.out, HVB.out⟩)).mono ?_
        rintro e w2 ⟨rfl, hb2⟩
        clear q1 l1
        clear q2 l2
        have BK := BX.out.keep hb2
        obtain ⟨q3, l3⟩ := BK.fact (b := W.heap.size) (S := .slice D n c) (by simp)
        obtain ⟨q4, l4⟩ := BK.fact (b := W.heap.size + 1) (S := .slice E m c') (by simp)
        replace BX := Lib.hid ((BK.cons (.slice none 0 0)).cons (.slice none 0 0))
        replace HB := Lib.hid (bl_alloc' (bl_alloc' (Below.on HB.out hb2) (.cells #[.slice none 0 0] 24)) (.cells #[.slice none 0 0] 24))
        clear BK hb2
        go_wp2_with fail
        refine (refDivmod_bad (f := f) (g := g) hn9 hm9 (hD.below HB.out) (hE.below HB.out) (.inr ⟨HVA.out, HVB.out⟩)).mono ?_
        rintro e w3 ⟨rfl, hb3⟩
        clear q3 l3
        clear q4 l4
        have BK := BX.out.keep hb3
        obtain ⟨q5, l5⟩ := BK.fact (b := W.heap.size) (S := .slice D n c) (by simp)
        obtain ⟨q6, l6⟩ := BK.fact (b := W.heap.size + 1) (S := .slice E m c') (by simp)
        obtain ⟨q7, l7⟩ := BK.fact (b := w2.heap.size) (S := .slice none 0 0) (by simp)
        obtain ⟨q8, l8⟩ := BK.fact (b := w2.heap.size + 1) (S := .slice none 0 0) (by simp)
        replace BX := Lib.hid ((BK.cons (.slice none 0 0)).cons (.slice none 0 0))
        replace HB := Lib.hid (bl_alloc' (bl_alloc' (Below.on HB.out hb3) (.cells #[.slice none 0 0] 24)) (.cells #[.slice none 0 0] 24))
        clear BK hb3
        go_wp2_with fail
        refine (same_yes (n := 0) (f := fun _ => 0) (by omega) Cells.nil Cells.nil).mono ?_
        rintro e w4 ⟨rfl, hb4⟩
        clear q5 l5
        clear q6 l6
        clear q7 l7
        clear q8 l8
        have BK := BX.out.keep hb4
        obtain ⟨q9, l9⟩ := BK.fact (b := W.heap.size) (S := .slice D n c) (by simp)
        obtain ⟨q10, l10⟩ := BK.fact (b := W.heap.size + 1) (S := .slice E m c') (by simp)
        obtain ⟨q11, l11⟩ := BK.fact (b := w2.heap.size) (S := .slice none 0 0) (by simp)
        obtain ⟨q12, l12⟩ := BK.fact (b := w2.heap.size + 1) (S := .slice none 0 0) (by simp)
        obtain ⟨q13, l13⟩ := BK.fact (b := w3.heap.size) (S := .slice none 0 0) (by simp)
        obtain ⟨q14, l14⟩ := BK.fact (b := w3.heap.size + 1) (S := .slice none 0 0) (by simp)
        replace BX := Lib.hid BK
        replace HB := Lib.hid (Below.on HB.out hb4)
        clear BK hb4
        go_wp2_with fail
        refine (same_yes (n := 0) (f := fun _ => 0) (by omega) Cells.nil Cells.nil).mono ?_
        rintro e w5 ⟨rfl, hb5⟩
        clear q9 l9
        clear q10 l10
        clear q11 l11
        clear q12 l12
        clear q13 l13
        clear q14 l14
        have BK := BX.out.keep hb5
        obtain ⟨q15, l15⟩ := BK.fact (b := W.heap.size) (S := .slice D n c) (by simp)
        obtain ⟨q16, l16⟩ := BK.fact (b := W.heap.size + 1) (S := .slice E m c') (by simp)
        obtain ⟨q17, l17⟩ := BK.fact (b := w2.heap.size) (S := .slice none 0 0) (by simp)
        obtain ⟨q18, l18⟩ := BK.fact (b := w2.heap.size + 1) (S := .slice none 0 0) (by simp)
        obtain ⟨q19, l19⟩ := BK.fact (b := w3.heap.size) (S := .slice none 0 0) (by simp)
        obtain ⟨q20, l20⟩ := BK.fact (b := w3.heap.size + 1) (S := .slice none 0 0) (by simp)
        replace BX := Lib.hid BK
        replace HB := Lib.hid (Below.on HB.out hb5)
        clear BK hb5
        go_wp2_with fail
        refine (divided_any _).mono ?_
        rintro e w6 ⟨rfl, hb6⟩
        clear q15 l15
        clear q16 l16
        clear q17 l17
        clear q18 l18
        clear q19 l19
        clear q20 l20
        have BK := BX.out.keep hb6
        obtain ⟨q21, l21⟩ := BK.fact (b := W.heap.size) (S := .slice D n c) (by simp)
        obtain ⟨q22, l22⟩ := BK.fact (b := W.heap.size + 1) (S := .slice E m c') (by simp)
        obtain ⟨q23, l23⟩ := BK.fact (b := w2.heap.size) (S := .slice none 0 0) (by simp)
        obtain ⟨q24, l24⟩ := BK.fact (b := w2.heap.size + 1) (S := .slice none 0 0) (by simp)
        obtain ⟨q25, l25⟩ := BK.fact (b := w3.heap.size) (S := .slice none 0 0) (by simp)
        obtain ⟨q26, l26⟩ := BK.fact (b := w3.heap.size + 1) (S := .slice none 0 0) (by simp)
        replace BX := Lib.hid BK
        replace HB := Lib.hid (Below.on HB.out hb6)
        clear BK hb6
        go_wp2
        go_ret
        exact ⟨rfl, HB.out⟩
      | true =>
        by_cases hm0 : m = 0
        · subst hm0
          have HVA := Lib.hid hva
          have HVB := Lib.hid hvb
          clear hva hvb hf hg
          have BX := Lib.hid ((((Bxs.nil W).cons (.slice D n c))).cons (.slice E 0 c'))
          have HB := Lib.hid (bl_alloc' (bl_alloc' (Below.refl W.heap.size W) (.cells #[.slice D n c] 24)) (.cells #[.slice E 0 c'] 24))
          go_enter Try.func8, Try.ntmps8
          go_wp2_with fail
          refine (nfew_yes hn70 hm70 _).mono ?_
          rintro e w1 ⟨rfl, hb1⟩
          have BK := BX.out.keep hb1
          obtain ⟨q1, l1⟩ := BK.fact (b := W.heap.size) (S := .slice D n c) (by simp)
          obtain ⟨q2, l2⟩ := BK.fact (b := W.heap.size + 1) (S := .slice E 0 c') (by simp)
          replace BX := Lib.hid BK
          replace HB := Lib.hid (Below.on HB.out hb1)
          clear BK hb1
          go_wp2_with fail
          refine (divmod_zero (f := f) (g := g) hn9 (hD.below HB.out) HVA.out).mono ?_
          rintro e w2 ⟨rfl, hb2⟩
          clear q1 l1
          clear q2 l2
          have BK := BX.out.keep hb2
          obtain ⟨q3, l3⟩ := BK.fact (b := W.heap.size) (S := .slice D n c) (by simp)
          obtain ⟨q4, l4⟩ := BK.fact (b := W.heap.size + 1) (S := .slice E 0 c') (by simp)
          replace BX := Lib.hid ((BK.cons (.slice none 0 0)).cons (.slice none 0 0))
          replace HB := Lib.hid (bl_alloc' (bl_alloc' (Below.on HB.out hb2) (.cells #[.slice none 0 0] 24)) (.cells #[.slice none 0 0] 24))
          clear BK hb2
          go_wp2_with fail
          refine (refDivmod_zero (f := f) (g := g) hn9 (hD.below HB.out) HVA.out).mono ?_
          rintro e w3 ⟨rfl, hb3⟩
          clear q3 l3
          clear q4 l4
          have BK := BX.out.keep hb3
          obtain ⟨q5, l5⟩ := BK.fact (b := W.heap.size) (S := .slice D n c) (by simp)
          obtain ⟨q6, l6⟩ := BK.fact (b := W.heap.size + 1) (S := .slice E 0 c') (by simp)
          obtain ⟨q7, l7⟩ := BK.fact (b := w2.heap.size) (S := .slice none 0 0) (by simp)
          obtain ⟨q8, l8⟩ := BK.fact (b := w2.heap.size + 1) (S := .slice none 0 0) (by simp)
          replace BX := Lib.hid ((BK.cons (.slice none 0 0)).cons (.slice none 0 0))
          replace HB := Lib.hid (bl_alloc' (bl_alloc' (Below.on HB.out hb3) (.cells #[.slice none 0 0] 24)) (.cells #[.slice none 0 0] 24))
          clear BK hb3
          go_wp2_with fail
          refine (same_yes (n := 0) (f := fun _ => 0) (by omega) Cells.nil Cells.nil).mono ?_
          rintro e w4 ⟨rfl, hb4⟩
          clear q5 l5
          clear q6 l6
          clear q7 l7
          clear q8 l8
          have BK := BX.out.keep hb4
          obtain ⟨q9, l9⟩ := BK.fact (b := W.heap.size) (S := .slice D n c) (by simp)
          obtain ⟨q10, l10⟩ := BK.fact (b := W.heap.size + 1) (S := .slice E 0 c') (by simp)
          obtain ⟨q11, l11⟩ := BK.fact (b := w2.heap.size) (S := .slice none 0 0) (by simp)
          obtain ⟨q12, l12⟩ := BK.fact (b := w2.heap.size + 1) (S := .slice none 0 0) (by simp)
          obtain ⟨q13, l13⟩ := BK.fact (b := w3.heap.size) (S := .slice none 0 0) (by simp)
          obtain ⟨q14, l14⟩ := BK.fact (b := w3.heap.size + 1) (S := .slice none 0 0) (by simp)
          replace BX := Lib.hid BK
          replace HB := Lib.hid (Below.on HB.out hb4)
          clear BK hb4
          go_wp2_with fail
          refine (same_yes (n := 0) (f := fun _ => 0) (by omega) Cells.nil Cells.nil).mono ?_
          rintro e w5 ⟨rfl, hb5⟩
          clear q9 l9
          clear q10 l10
          clear q11 l11
          clear q12 l12
          clear q13 l13
          clear q14 l14
          have BK := BX.out.keep hb5
          obtain ⟨q15, l15⟩ := BK.fact (b := W.heap.size) (S := .slice D n c) (by simp)
          obtain ⟨q16, l16⟩ := BK.fact (b := W.heap.size + 1) (S := .slice E 0 c') (by simp)
          obtain ⟨q17, l17⟩ := BK.fact (b := w2.heap.size) (S := .slice none 0 0) (by simp)
          obtain ⟨q18, l18⟩ := BK.fact (b := w2.heap.size + 1) (S := .slice none 0 0) (by simp)
          obtain ⟨q19, l19⟩ := BK.fact (b := w3.heap.size) (S := .slice none 0 0) (by simp)
          obtain ⟨q20, l20⟩ := BK.fact (b := w3.heap.size + 1) (S := .slice none 0 0) (by simp)
          replace BX := Lib.hid BK
          replace HB := Lib.hid (Below.on HB.out hb5)
          clear BK hb5
          go_wp2_with fail
          refine (divided_any _).mono ?_
          rintro e w6 ⟨rfl, hb6⟩
          clear q15 l15
          clear q16 l16
          clear q17 l17
          clear q18 l18
          clear q19 l19
          clear q20 l20
          have BK := BX.out.keep hb6
          obtain ⟨q21, l21⟩ := BK.fact (b := W.heap.size) (S := .slice D n c) (by simp)
          obtain ⟨q22, l22⟩ := BK.fact (b := W.heap.size + 1) (S := .slice E 0 c') (by simp)
          obtain ⟨q23, l23⟩ := BK.fact (b := w2.heap.size) (S := .slice none 0 0) (by simp)
          obtain ⟨q24, l24⟩ := BK.fact (b := w2.heap.size + 1) (S := .slice none 0 0) (by simp)
          obtain ⟨q25, l25⟩ := BK.fact (b := w3.heap.size) (S := .slice none 0 0) (by simp)
          obtain ⟨q26, l26⟩ := BK.fact (b := w3.heap.size + 1) (S := .slice none 0 0) (by simp)
          replace BX := Lib.hid BK
          replace HB := Lib.hid (Below.on HB.out hb6)
          clear BK hb6
          go_wp2
          go_ret
          exact ⟨rfl, HB.out⟩
        · obtain ⟨hn, hLx, hX⟩ := num_of hD hf hva
          obtain ⟨hm, hLy, hY⟩ := num_of hE hg hvb
          generalize v32 f n = x at *
          generalize v32 g m = y at *
          have HLX := Lib.hid hLx
          have HLY := Lib.hid hLy
          have hy0 : 0 < y := by
            rcases Nat.eq_zero_or_pos y with h | h
            · rw [h, L32_zero.2 rfl] at hLy; omega
            · exact h
          have HY0 := Lib.hid hy0
          have hx64 : L32 x ≤ 64 := by rw [← hLx]; exact hn
          obtain ⟨q, hq⟩ : ∃ q, q = x / y := ⟨_, rfl⟩
          obtain ⟨r, hr⟩ : ∃ r, r = x % y := ⟨_, rfl⟩
          have HQ := Lib.hid hq.symm
          have HR := Lib.hid hr.symm
          have HQ64 := Lib.hid (show L32 q ≤ 64 from Nat.le_trans (Nt.len_mono (by omega) (by rw [hq]; exact Nat.div_le_self x y)) hx64)
          have HR64 := Lib.hid (show L32 r ≤ 64 from Nat.le_trans (Nt.len_mono (by omega) (by rw [hr]; exact Nat.mod_le x y)) hx64)
          clear hva hvb hf hg hD hE hLx hLy hy0 hq hr hx64
          have BX := Lib.hid ((((Bxs.nil W).cons (.slice D n c))).cons (.slice E m c'))
          have HB := Lib.hid (bl_alloc' (bl_alloc' (Below.refl W.heap.size W) (.cells #[.slice D n c] 24)) (.cells #[.slice E m c'] 24))
          go_enter Try.func8, Try.ntmps8
          go_wp2_with fail
          refine (nfew_yes hn70 hm70 _).mono ?_
          rintro e w1 ⟨rfl, hb1⟩
          have BK := BX.out.keep hb1
          obtain ⟨q1, l1⟩ := BK.fact (b := W.heap.size) (S := .slice D n c) (by simp)
          obtain ⟨q2, l2⟩ := BK.fact (b := W.heap.size + 1) (S := .slice E m c') (by simp)
          replace BX := Lib.hid BK
          replace HB := Lib.hid (Below.on HB.out hb1)
          clear BK hb1
          go_wp2_with fail
          refine (div_to (x := x) (y := y) (q := q) (r := r) hn hm HLX.out HLY.out (hX.below HB.out) (hY.below HB.out) HY0.out HQ.out HR.out).mono ?_
          rintro e w2 ⟨D2, c2, D2b, c2b, rfl, hc2, hd2, hb2⟩
          clear q1 l1
          clear q2 l2
          have BK := BX.out.keep hb2
          obtain ⟨q3, l3⟩ := BK.fact (b := W.heap.size) (S := .slice D n c) (by simp)
          obtain ⟨q4, l4⟩ := BK.fact (b := W.heap.size + 1) (S := .slice E m c') (by simp)
          replace BX := Lib.hid ((BK.cons (.slice D2 (L32 (q)) c2)).cons (.slice D2b (L32 (r)) c2b))
          replace HB := Lib.hid (bl_alloc' (bl_alloc' (Below.on HB.out hb2) (.cells #[.slice D2 (L32 (q)) c2] 24)) (.cells #[.slice D2b (L32 (r)) c2b] 24))
          have HC2 := Lib.hid ((hc2.alloc (.cells #[.slice D2 (L32 (q)) c2] 24)).alloc (.cells #[.slice D2b (L32 (r)) c2b] 24))
          have HC2b := Lib.hid ((hd2.alloc (.cells #[.slice D2 (L32 (q)) c2] 24)).alloc (.cells #[.slice D2b (L32 (r)) c2b] 24))
          clear hc2 hd2
          clear BK hb2
          go_wp2_with fail
          refine (refDiv_to (x := x) (y := y) (q := q) (r := r) hn hm HLX.out HLY.out (hX.below HB.out) (hY.below HB.out) HY0.out HQ.out HR.out).mono ?_
          rintro e w3 ⟨D3, c3, D3b, c3b, rfl, hc3, hd3, hb3⟩
          clear q3 l3
          clear q4 l4
          have BK := BX.out.keep hb3
          obtain ⟨q5, l5⟩ := BK.fact (b := W.heap.size) (S := .slice D n c) (by simp)
          obtain ⟨q6, l6⟩ := BK.fact (b := W.heap.size + 1) (S := .slice E m c') (by simp)
          obtain ⟨q7, l7⟩ := BK.fact (b := w2.heap.size) (S := .slice D2 (L32 (q)) c2) (by simp)
          obtain ⟨q8, l8⟩ := BK.fact (b := w2.heap.size + 1) (S := .slice D2b (L32 (r)) c2b) (by simp)
          replace BX := Lib.hid ((BK.cons (.slice D3 (L32 (q)) c3)).cons (.slice D3b (L32 (r)) c3b))
          replace HB := Lib.hid (bl_alloc' (bl_alloc' (Below.on HB.out hb3) (.cells #[.slice D3 (L32 (q)) c3] 24)) (.cells #[.slice D3b (L32 (r)) c3b] 24))
          replace HC2 := Lib.hid (((HC2.out.below hb3).alloc (.cells #[.slice D3 (L32 (q)) c3] 24)).alloc (.cells #[.slice D3b (L32 (r)) c3b] 24))
          replace HC2b := Lib.hid (((HC2b.out.below hb3).alloc (.cells #[.slice D3 (L32 (q)) c3] 24)).alloc (.cells #[.slice D3b (L32 (r)) c3b] 24))
          have HC3 := Lib.hid ((hc3.alloc (.cells #[.slice D3 (L32 (q)) c3] 24)).alloc (.cells #[.slice D3b (L32 (r)) c3b] 24))
          have HC3b := Lib.hid ((hd3.alloc (.cells #[.slice D3 (L32 (q)) c3] 24)).alloc (.cells #[.slice D3b (L32 (r)) c3b] 24))
          clear hc3 hd3
          clear BK hb3
          go_wp2_with fail
          refine (same_yes (n := L32 q) (f := d32 q) (by have := HQ64.out; omega) HC2.out HC3.out).mono ?_
          rintro e w4 ⟨rfl, hb4⟩
          clear q5 l5
          clear q6 l6
          clear q7 l7
          clear q8 l8
          have BK := BX.out.keep hb4
          obtain ⟨q9, l9⟩ := BK.fact (b := W.heap.size) (S := .slice D n c) (by simp)
          obtain ⟨q10, l10⟩ := BK.fact (b := W.heap.size + 1) (S := .slice E m c') (by simp)
          obtain ⟨q11, l11⟩ := BK.fact (b := w2.heap.size) (S := .slice D2 (L32 (q)) c2) (by simp)
          obtain ⟨q12, l12⟩ := BK.fact (b := w2.heap.size + 1) (S := .slice D2b (L32 (r)) c2b) (by simp)
          obtain ⟨q13, l13⟩ := BK.fact (b := w3.heap.size) (S := .slice D3 (L32 (q)) c3) (by simp)
          obtain ⟨q14, l14⟩ := BK.fact (b := w3.heap.size + 1) (S := .slice D3b (L32 (r)) c3b) (by simp)
          replace BX := Lib.hid BK
          replace HB := Lib.hid (Below.on HB.out hb4)
          replace HC2 := Lib.hid (HC2.out.below hb4)
          replace HC2b := Lib.hid (HC2b.out.below hb4)
          replace HC3 := Lib.hid (HC3.out.below hb4)
          replace HC3b := Lib.hid (HC3b.out.below hb4)
          clear BK hb4
          go_wp2_with fail
          refine (same_yes (n := L32 r) (f := d32 r) (by have := HR64.out; omega) HC2b.out HC3b.out).mono ?_
          rintro e w5 ⟨rfl, hb5⟩
          clear q9 l9
          clear q10 l10
          clear q11 l11
          clear q12 l12
          clear q13 l13
          clear q14 l14
          have BK := BX.out.keep hb5
          obtain ⟨q15, l15⟩ := BK.fact (b := W.heap.size) (S := .slice D n c) (by simp)
          obtain ⟨q16, l16⟩ := BK.fact (b := W.heap.size + 1) (S := .slice E m c') (by simp)
          obtain ⟨q17, l17⟩ := BK.fact (b := w2.heap.size) (S := .slice D2 (L32 (q)) c2) (by simp)
          obtain ⟨q18, l18⟩ := BK.fact (b := w2.heap.size + 1) (S := .slice D2b (L32 (r)) c2b) (by simp)
          obtain ⟨q19, l19⟩ := BK.fact (b := w3.heap.size) (S := .slice D3 (L32 (q)) c3) (by simp)
          obtain ⟨q20, l20⟩ := BK.fact (b := w3.heap.size + 1) (S := .slice D3b (L32 (r)) c3b) (by simp)
          replace BX := Lib.hid BK
          replace HB := Lib.hid (Below.on HB.out hb5)
          replace HC2 := Lib.hid (HC2.out.below hb5)
          replace HC2b := Lib.hid (HC2b.out.below hb5)
          replace HC3 := Lib.hid (HC3.out.below hb5)
          replace HC3b := Lib.hid (HC3b.out.below hb5)
          clear BK hb5
          go_wp2_with fail
          refine (divided_any _).mono ?_
          rintro e w6 ⟨rfl, hb6⟩
          clear q15 l15
          clear q16 l16
          clear q17 l17
          clear q18 l18
          clear q19 l19
          clear q20 l20
          have BK := BX.out.keep hb6
          obtain ⟨q21, l21⟩ := BK.fact (b := W.heap.size) (S := .slice D n c) (by simp)
          obtain ⟨q22, l22⟩ := BK.fact (b := W.heap.size + 1) (S := .slice E m c') (by simp)
          obtain ⟨q23, l23⟩ := BK.fact (b := w2.heap.size) (S := .slice D2 (L32 (q)) c2) (by simp)
          obtain ⟨q24, l24⟩ := BK.fact (b := w2.heap.size + 1) (S := .slice D2b (L32 (r)) c2b) (by simp)
          obtain ⟨q25, l25⟩ := BK.fact (b := w3.heap.size) (S := .slice D3 (L32 (q)) c3) (by simp)
          obtain ⟨q26, l26⟩ := BK.fact (b := w3.heap.size + 1) (S := .slice D3b (L32 (r)) c3b) (by simp)
          replace BX := Lib.hid BK
          replace HB := Lib.hid (Below.on HB.out hb6)
          replace HC2 := Lib.hid (HC2.out.below hb6)
          replace HC2b := Lib.hid (HC2b.out.below hb6)
          replace HC3 := Lib.hid (HC3.out.below hb6)
          replace HC3b := Lib.hid (HC3b.out.below hb6)
          clear BK hb6
          go_wp2
          go_ret
          exact ⟨rfl, HB.out⟩
  · have hfew2 : 70 < n ∨ n ≤ 70 ∧ 70 < m := by omega
    have HF := Lib.hid hfew2
    clear hfew hfew2 hf hg
    have BX := Lib.hid ((((Bxs.nil W).cons (.slice D n c))).cons (.slice E m c'))
    have HB := Lib.hid (bl_alloc' (bl_alloc' (Below.refl W.heap.size W) (.cells #[.slice D n c] 24)) (.cells #[.slice E m c'] 24))
    go_enter Try.func8, Try.ntmps8
    go_wp2_with fail
    refine (nfew_no HF.out _).mono ?_
    rintro e w1 ⟨rfl, hb1⟩
    have BK := BX.out.keep hb1
    obtain ⟨q1, l1⟩ := BK.fact (b := W.heap.size) (S := .slice D n c) (by simp)
    obtain ⟨q2, l2⟩ := BK.fact (b := W.heap.size + 1) (S := .slice E m c') (by simp)
    replace BX := Lib.hid BK
    replace HB := Lib.hid (Below.on HB.out hb1)
    clear BK hb1
    go_wp2_with fail
    refine (divided_any _).mono ?_
    rintro e w2 ⟨rfl, hb2⟩
    clear q1 l1
    clear q2 l2
    have BK := BX.out.keep hb2
    obtain ⟨q3, l3⟩ := BK.fact (b := W.heap.size) (S := .slice D n c) (by simp)
    obtain ⟨q4, l4⟩ := BK.fact (b := W.heap.size + 1) (S := .slice E m c') (by simp)
    replace BX := Lib.hid BK
    replace HB := Lib.hid (Below.on HB.out hb2)
    clear BK hb2
    go_wp2
    go_ret
    exact ⟨rfl, HB.out⟩
end Go.Proofs.Ythjbkadhgcjnaaa
