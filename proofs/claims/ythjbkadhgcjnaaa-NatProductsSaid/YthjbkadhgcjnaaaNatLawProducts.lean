/- The walk of the law NatProducts. -/
import Derived.Test.YthjbkadhgcjnaaaNatWords
import Derived.Test.YthjbkadhgcjnaaaNatBad
import Derived.Test.YthjbkadhgcjnaaaNatRDiff
import Derived.Test.YthjbkadhgcjnaaaNatRProd
import Derived.Test.YthjbkadhgcjnaaaNatSub
set_option linter.unusedVariables false
namespace Go.Proofs.Ythjbkadhgcjnaaa
open Go.RowKit

set_option maxHeartbeats 2000000 in
set_option maxRecDepth 100000 in
theorem natProducts_walk (W : World) {D E : Option Addr} {n c m c' : Nat} {f g : Nat → Nat} (hnc : n ≤ c) (hc : c ≤ maxLen) (hD : Cells W D n (Lm f)) (hf : ∀ j, j < n → f j < 4294967296) (hmc : m ≤ c') (hc' : c' ≤ maxLen) (hE : Cells W E m (Lm g)) (hg : ∀ j, j < m → g j < 4294967296) :
    Calls Try.prog 3 #[natv D n c, natv E m c'] W fun e w' => e = .returned (.bool true) ∧ Below W.heap.size W w' := by
  have hn9 : n ≤ 9223372036854775807 := by unfold maxLen at hc; omega
  have hm9 : m ≤ 9223372036854775807 := by unfold maxLen at hc'; omega
  by_cases hv : vd n f = true ∧ vd m g = true
  · obtain ⟨hn, hLx, hdx⟩ := vd_num hf hv.1
    obtain ⟨hm, hLy, hdy⟩ := vd_num hg hv.2
    have hX := hD.congr (G := Lm (d32 (v32 f n))) fun j hj => by unfold Lm; rw [hdx j hj]
    have hY := hE.congr (G := Lm (d32 (v32 g m))) fun j hj => by unfold Lm; rw [hdy j hj]
    generalize v32 f n = x at *
    generalize v32 g m = y at *
    have HLX := Lib.hid hLx.symm
    have HLY := Lib.hid hLy.symm
    clear hv hdx hdy hD hE hf hg hLx hLy
    unfold natv
    by_cases h64 : L32 (x * y) ≤ 64
    · have BX := Lib.hid ((((Bxs.nil W).cons (.slice D n c))).cons (.slice E m c'))
      have HB := Lib.hid (bl_alloc' (bl_alloc' (Below.refl W.heap.size W) (.cells #[.slice D n c] 24)) (.cells #[.slice E m c'] 24))
      go_enter Try.func3, Try.ntmps3
      go_wp2_with fail
      refine (res_yes (mul_any (x := x) (y := y) hn hm HLX.out HLY.out (hX.below HB.out) (hY.below HB.out)) h64).mono ?_
      rintro e w1 ⟨D1, c1, rfl, hl1, hc1, hb1⟩
      have BK := BX.out.keep hb1
      obtain ⟨q1, l1⟩ := BK.fact (b := W.heap.size) (S := .slice D n c) (by simp)
      obtain ⟨q2, l2⟩ := BK.fact (b := W.heap.size + 1) (S := .slice E m c') (by simp)
      replace BX := Lib.hid (BK.cons (.slice D1 (L32 (x * y)) c1))
      replace HB := Lib.hid (bl_alloc' (Below.on HB.out hb1) (.cells #[.slice D1 (L32 (x * y)) c1] 24))
      have HC1 := Lib.hid (hc1.alloc (.cells #[.slice D1 (L32 (x * y)) c1] 24))
      clear hc1
      clear BK hb1
      go_wp2_with fail
      refine (res_yes (refMul_any (x := x) (y := y) hn hm HLX.out HLY.out (hX.below HB.out) (hY.below HB.out)) h64).mono ?_
      rintro e w2 ⟨D2, c2, rfl, hl2, hc2, hb2⟩
      clear q1 l1
      clear q2 l2
      have BK := BX.out.keep hb2
      obtain ⟨q3, l3⟩ := BK.fact (b := W.heap.size) (S := .slice D n c) (by simp)
      obtain ⟨q4, l4⟩ := BK.fact (b := W.heap.size + 1) (S := .slice E m c') (by simp)
      obtain ⟨q5, l5⟩ := BK.fact (b := w1.heap.size) (S := .slice D1 (L32 (x * y)) c1) (by simp)
      replace BX := Lib.hid (BK.cons (.slice D2 (L32 (x * y)) c2))
      replace HB := Lib.hid (bl_alloc' (Below.on HB.out hb2) (.cells #[.slice D2 (L32 (x * y)) c2] 24))
      replace HC1 := Lib.hid ((HC1.out.below hb2).alloc (.cells #[.slice D2 (L32 (x * y)) c2] 24))
      have HC2 := Lib.hid (hc2.alloc (.cells #[.slice D2 (L32 (x * y)) c2] 24))
      clear hc2
      clear BK hb2
      go_wp2_with fail
      refine (same_yes (n := L32 (x * y)) (f := d32 (x * y)) (by omega) HC1.out HC2.out).mono ?_
      rintro e w3 ⟨rfl, hb3⟩
      clear q3 l3
      clear q4 l4
      clear q5 l5
      have BK := BX.out.keep hb3
      obtain ⟨q6, l6⟩ := BK.fact (b := W.heap.size) (S := .slice D n c) (by simp)
      obtain ⟨q7, l7⟩ := BK.fact (b := W.heap.size + 1) (S := .slice E m c') (by simp)
      obtain ⟨q8, l8⟩ := BK.fact (b := w1.heap.size) (S := .slice D1 (L32 (x * y)) c1) (by simp)
      obtain ⟨q9, l9⟩ := BK.fact (b := w2.heap.size) (S := .slice D2 (L32 (x * y)) c2) (by simp)
      replace BX := Lib.hid BK
      replace HB := Lib.hid (Below.on HB.out hb3)
      replace HC1 := Lib.hid (HC1.out.below hb3)
      replace HC2 := Lib.hid (HC2.out.below hb3)
      clear BK hb3
      go_wp2_with fail
      refine (multiplied_any _).mono ?_
      rintro e w4 ⟨rfl, hb4⟩
      clear q6 l6
      clear q7 l7
      clear q8 l8
      clear q9 l9
      have BK := BX.out.keep hb4
      obtain ⟨q10, l10⟩ := BK.fact (b := W.heap.size) (S := .slice D n c) (by simp)
      obtain ⟨q11, l11⟩ := BK.fact (b := W.heap.size + 1) (S := .slice E m c') (by simp)
      obtain ⟨q12, l12⟩ := BK.fact (b := w1.heap.size) (S := .slice D1 (L32 (x * y)) c1) (by simp)
      obtain ⟨q13, l13⟩ := BK.fact (b := w2.heap.size) (S := .slice D2 (L32 (x * y)) c2) (by simp)
      replace BX := Lib.hid BK
      replace HB := Lib.hid (Below.on HB.out hb4)
      replace HC1 := Lib.hid (HC1.out.below hb4)
      replace HC2 := Lib.hid (HC2.out.below hb4)
      clear BK hb4
      go_wp2
      go_ret
      exact ⟨rfl, HB.out⟩
    · have h64 : 64 < L32 (x * y) := by omega
      have BX := Lib.hid ((((Bxs.nil W).cons (.slice D n c))).cons (.slice E m c'))
      have HB := Lib.hid (bl_alloc' (bl_alloc' (Below.refl W.heap.size W) (.cells #[.slice D n c] 24)) (.cells #[.slice E m c'] 24))
      go_enter Try.func3, Try.ntmps3
      go_wp2_with fail
      refine (res_no (mul_any (x := x) (y := y) hn hm HLX.out HLY.out (hX.below HB.out) (hY.below HB.out)) h64).mono ?_
      rintro e w1 ⟨rfl, hb1⟩
      have BK := BX.out.keep hb1
      obtain ⟨q1, l1⟩ := BK.fact (b := W.heap.size) (S := .slice D n c) (by simp)
      obtain ⟨q2, l2⟩ := BK.fact (b := W.heap.size + 1) (S := .slice E m c') (by simp)
      replace BX := Lib.hid (BK.cons (.slice none 0 0))
      replace HB := Lib.hid (bl_alloc' (Below.on HB.out hb1) (.cells #[.slice none 0 0] 24))
      clear BK hb1
      go_wp2_with fail
      refine (res_no (refMul_any (x := x) (y := y) hn hm HLX.out HLY.out (hX.below HB.out) (hY.below HB.out)) h64).mono ?_
      rintro e w2 ⟨rfl, hb2⟩
      clear q1 l1
      clear q2 l2
      have BK := BX.out.keep hb2
      obtain ⟨q3, l3⟩ := BK.fact (b := W.heap.size) (S := .slice D n c) (by simp)
      obtain ⟨q4, l4⟩ := BK.fact (b := W.heap.size + 1) (S := .slice E m c') (by simp)
      obtain ⟨q5, l5⟩ := BK.fact (b := w1.heap.size) (S := .slice none 0 0) (by simp)
      replace BX := Lib.hid (BK.cons (.slice none 0 0))
      replace HB := Lib.hid (bl_alloc' (Below.on HB.out hb2) (.cells #[.slice none 0 0] 24))
      clear BK hb2
      go_wp2_with fail
      refine (same_yes (n := 0) (f := fun _ => 0) (by omega) Cells.nil Cells.nil).mono ?_
      rintro e w3 ⟨rfl, hb3⟩
      clear q3 l3
      clear q4 l4
      clear q5 l5
      have BK := BX.out.keep hb3
      obtain ⟨q6, l6⟩ := BK.fact (b := W.heap.size) (S := .slice D n c) (by simp)
      obtain ⟨q7, l7⟩ := BK.fact (b := W.heap.size + 1) (S := .slice E m c') (by simp)
      obtain ⟨q8, l8⟩ := BK.fact (b := w1.heap.size) (S := .slice none 0 0) (by simp)
      obtain ⟨q9, l9⟩ := BK.fact (b := w2.heap.size) (S := .slice none 0 0) (by simp)
      replace BX := Lib.hid BK
      replace HB := Lib.hid (Below.on HB.out hb3)
      clear BK hb3
      go_wp2_with fail
      refine (multiplied_any _).mono ?_
      rintro e w4 ⟨rfl, hb4⟩
      clear q6 l6
      clear q7 l7
      clear q8 l8
      clear q9 l9
      have BK := BX.out.keep hb4
      obtain ⟨q10, l10⟩ := BK.fact (b := W.heap.size) (S := .slice D n c) (by simp)
      obtain ⟨q11, l11⟩ := BK.fact (b := W.heap.size + 1) (S := .slice E m c') (by simp)
      obtain ⟨q12, l12⟩ := BK.fact (b := w1.heap.size) (S := .slice none 0 0) (by simp)
      obtain ⟨q13, l13⟩ := BK.fact (b := w2.heap.size) (S := .slice none 0 0) (by simp)
      replace BX := Lib.hid BK
      replace HB := Lib.hid (Below.on HB.out hb4)
      clear BK hb4
      go_wp2
      go_ret
      exact ⟨rfl, HB.out⟩
  · have hbad : Hid (vd n f = false ∨ vd n f = true ∧ vd m g = false) := by
      cases h1 : vd n f with
      | false => exact .inl rfl
      | true => exact .inr ⟨rfl, by cases h2 : vd m g with | false => rfl | true => exact absurd ⟨h1, h2⟩ hv⟩
    clear hv hf hg
    unfold natv
    have BX := Lib.hid ((((Bxs.nil W).cons (.slice D n c))).cons (.slice E m c'))
    have HB := Lib.hid (bl_alloc' (bl_alloc' (Below.refl W.heap.size W) (.cells #[.slice D n c] 24)) (.cells #[.slice E m c'] 24))
    go_enter Try.func3, Try.ntmps3
    go_wp2_with fail
    refine (res_bad (mul_bad (f := f) (g := g) hn9 hm9 (hD.below HB.out) (hE.below HB.out) hbad.out)).mono ?_
    rintro e w1 ⟨rfl, hb1⟩
    have BK := BX.out.keep hb1
    obtain ⟨q1, l1⟩ := BK.fact (b := W.heap.size) (S := .slice D n c) (by simp)
    obtain ⟨q2, l2⟩ := BK.fact (b := W.heap.size + 1) (S := .slice E m c') (by simp)
    replace BX := Lib.hid (BK.cons (.slice none 0 0))
    replace HB := Lib.hid (bl_alloc' (Below.on HB.out hb1) (.cells #[.slice none 0 0] 24))
    clear BK hb1
    go_wp2_with fail
    refine (res_bad (refMul_bad (f := f) (g := g) hn9 hm9 (hD.below HB.out) (hE.below HB.out) hbad.out)).mono ?_
    rintro e w2 ⟨rfl, hb2⟩
    clear q1 l1
    clear q2 l2
    have BK := BX.out.keep hb2
    obtain ⟨q3, l3⟩ := BK.fact (b := W.heap.size) (S := .slice D n c) (by simp)
    obtain ⟨q4, l4⟩ := BK.fact (b := W.heap.size + 1) (S := .slice E m c') (by simp)
    obtain ⟨q5, l5⟩ := BK.fact (b := w1.heap.size) (S := .slice none 0 0) (by simp)
    replace BX := Lib.hid (BK.cons (.slice none 0 0))
    replace HB := Lib.hid (bl_alloc' (Below.on HB.out hb2) (.cells #[.slice none 0 0] 24))
    clear BK hb2
    go_wp2_with fail
    refine (same_yes (n := 0) (f := fun _ => 0) (by omega) Cells.nil Cells.nil).mono ?_
    rintro e w3 ⟨rfl, hb3⟩
    clear q3 l3
    clear q4 l4
    clear q5 l5
    have BK := BX.out.keep hb3
    obtain ⟨q6, l6⟩ := BK.fact (b := W.heap.size) (S := .slice D n c) (by simp)
    obtain ⟨q7, l7⟩ := BK.fact (b := W.heap.size + 1) (S := .slice E m c') (by simp)
    obtain ⟨q8, l8⟩ := BK.fact (b := w1.heap.size) (S := .slice none 0 0) (by simp)
    obtain ⟨q9, l9⟩ := BK.fact (b := w2.heap.size) (S := .slice none 0 0) (by simp)
    replace BX := Lib.hid BK
    replace HB := Lib.hid (Below.on HB.out hb3)
    clear BK hb3
    go_wp2_with fail
    refine (multiplied_any _).mono ?_
    rintro e w4 ⟨rfl, hb4⟩
    clear q6 l6
    clear q7 l7
    clear q8 l8
    clear q9 l9
    have BK := BX.out.keep hb4
    obtain ⟨q10, l10⟩ := BK.fact (b := W.heap.size) (S := .slice D n c) (by simp)
    obtain ⟨q11, l11⟩ := BK.fact (b := W.heap.size + 1) (S := .slice E m c') (by simp)
    obtain ⟨q12, l12⟩ := BK.fact (b := w1.heap.size) (S := .slice none 0 0) (by simp)
    obtain ⟨q13, l13⟩ := BK.fact (b := w2.heap.size) (S := .slice none 0 0) (by simp)
    replace BX := Lib.hid BK
    replace HB := Lib.hid (Below.on HB.out hb4)
    clear BK hb4
    go_wp2
    go_ret
    exact ⟨rfl, HB.out⟩
end Go.Proofs.Ythjbkadhgcjnaaa
