/- The walk of the law NatDivides. -/
import Derived.Test.YthjbkadhgcjnaaaNatDivd
import Derived.Test.YthjbkadhgcjnaaaNatLawRing
set_option linter.unusedVariables false
namespace Go.Proofs.Ythjbkadhgcjnaaa
open Go.RowKit

theorem div_to {D E : Option Addr} {n m c c' x y q r : Nat} {w : World} (hn : n ≤ 64) (hm : m ≤ 64) (hnx : n = L32 x) (hmy : m = L32 y) (hx : Cells w D n (Lm (d32 x))) (hy : Cells w E m (Lm (d32 y))) (hy0 : 0 < y) (hq : x / y = q) (hr : x % y = r) :
    Calls Try.prog 36 #[.agg #[.slice D n c], .agg #[.slice E m c']] w fun e w' => ∃ Dq cq Dr cr, e = .returned (.tuple #[.agg #[.slice Dq (L32 q) cq], .agg #[.slice Dr (L32 r) cr], .int .i64 0]) ∧ Cells w' Dq (L32 q) (Lm (d32 q)) ∧ Cells w' Dr (L32 r) (Lm (d32 r)) ∧ Below w.heap.size w w' := by
  subst hq hr
  exact div_res (divmod_any hn hm hnx hmy hx hy hy0)
theorem add_to {D E : Option Addr} {n m c c' x y z : Nat} {w : World} (hn : n ≤ 64) (hm : m ≤ 64) (hnx : n = L32 x) (hmy : m = L32 y) (hx : Cells w D n (Lm (d32 x))) (hy : Cells w E m (Lm (d32 y))) (hz : x + y = z) (h64 : L32 z ≤ 64) :
    Calls Try.prog 24 #[.agg #[.slice D n c], .agg #[.slice E m c']] w fun e w' => ∃ D c, e = .returned (.tuple #[.agg #[.slice D (L32 z) c], .int .i64 0]) ∧ L32 z ≤ c ∧ Cells w' D (L32 z) (Lm (d32 z)) ∧ Below w.heap.size w w' := by
  subst hz
  exact res_yes (add_any hn hm hnx hmy hx hy) h64
theorem ncmp_lt {D E : Option Addr} {n m c c' x y : Nat} {w : World} (hn : n ≤ 64) (hm : m ≤ 64) (hnx : n = L32 x) (hmy : m = L32 y) (hx : Cells w D n (Lm (d32 x))) (hy : Cells w E m (Lm (d32 y))) (h : x < y) :
    Calls Try.prog 21 #[.agg #[.slice D n c], .agg #[.slice E m c']] w fun e w' => e = .returned (.int .i64 (-1)) ∧ Below w.heap.size w w' := by
  have := ncmp_any (c := c) (c' := c') hn hm hnx hmy hx hy
  rw [cmp_ltI h] at this
  exact this
set_option maxHeartbeats 4000000 in
set_option maxRecDepth 100000 in
theorem natDivides_walk (W : World) {D E : Option Addr} {n c m c' : Nat} {f g : Nat → Nat} (hnc : n ≤ c) (hc : c ≤ maxLen) (hD : Cells W D n (Lm f)) (hf : ∀ j, j < n → f j < 4294967296) (hmc : m ≤ c') (hc' : c' ≤ maxLen) (hE : Cells W E m (Lm g)) (hg : ∀ j, j < m → g j < 4294967296) :
    Calls Try.prog 10 #[natv D n c, natv E m c'] W fun e w' => e = .returned (.bool true) ∧ Below W.heap.size W w' := by
  have hn9 : n ≤ 9223372036854775807 := by unfold maxLen at hc; omega
  have hm9 : m ≤ 9223372036854775807 := by unfold maxLen at hc'; omega
  clear hnc hc hmc hc'
  unfold natv
  cases hva : vd n f with
  | false =>
    have HVA := Lib.hid hva
    clear hva hf hg
    have BX := Lib.hid ((((Bxs.nil W).cons (.slice D n c))).cons (.slice E m c'))
    have HB := Lib.hid (bl_alloc' (bl_alloc' (Below.refl W.heap.size W) (.cells #[.slice D n c] 24)) (.cells #[.slice E m c'] 24))
    go_enter Try.func10, Try.ntmps10
    go_wp2_with fail
    refine (nvalid_is (f := f) hn9 (hD.below HB.out) HVA.out).mono ?_
    rintro e w1 ⟨rfl, hb1⟩
    have BK := BX.out.keep hb1
    obtain ⟨q1, l1⟩ := BK.fact (b := W.heap.size) (S := .slice D n c) (by simp)
    obtain ⟨q2, l2⟩ := BK.fact (b := W.heap.size + 1) (S := .slice E m c') (by simp)
    replace BX := Lib.hid BK
    replace HB := Lib.hid (Below.on HB.out hb1)
    clear BK hb1
    go_wp2_with fail
    refine (divmod_bad (f := f) (g := g) hn9 hm9 (hD.below HB.out) (hE.below HB.out) (.inl HVA.out)).mono ?_
    rintro e w2 ⟨rfl, hb2⟩
    clear q1 l1
    clear q2 l2
    have BK := BX.out.keep hb2
    obtain ⟨q3, l3⟩ := BK.fact (b := W.heap.size) (S := .slice D n c) (by simp)
    obtain ⟨q4, l4⟩ := BK.fact (b := W.heap.size + 1) (S := .slice E m c') (by simp)
    replace BX := Lib.hid ((BK.cons (.slice none 0 0)).cons (.slice none 0 0))
    replace HB := Lib.hid (bl_alloc' (bl_alloc' (Below.on HB.out hb2) (.cells #[.slice none 0 0] 24)) (.cells #[.slice none 0 0] 24))
    clear BK hb2
    go_wp2_with fail
    refine (divided_any _).mono ?_
    rintro e w3 ⟨rfl, hb3⟩
    clear q3 l3
    clear q4 l4
    have BK := BX.out.keep hb3
    obtain ⟨q5, l5⟩ := BK.fact (b := W.heap.size) (S := .slice D n c) (by simp)
    obtain ⟨q6, l6⟩ := BK.fact (b := W.heap.size + 1) (S := .slice E m c') (by simp)
    obtain ⟨q7, l7⟩ := BK.fact (b := w2.heap.size) (S := .slice none 0 0) (by simp)
    obtain ⟨q8, l8⟩ := BK.fact (b := w2.heap.size + 1) (S := .slice none 0 0) (by simp)
    replace BX := Lib.hid BK
    replace HB := Lib.hid (Below.on HB.out hb3)
    clear BK hb3
    go_wp2
    go_ret
    exact ⟨rfl, HB.out⟩
  | true =>
    cases hvb : vd m g with
    | false =>
      have HVA := Lib.hid hva
      have HVB := Lib.hid hvb
      clear hva hvb hf hg
      have BX := Lib.hid ((((Bxs.nil W).cons (.slice D n c))).cons (.slice E m c'))
      have HB := Lib.hid (bl_alloc' (bl_alloc' (Below.refl W.heap.size W) (.cells #[.slice D n c] 24)) (.cells #[.slice E m c'] 24))
      go_enter Try.func10, Try.ntmps10
      go_wp2_with fail
      refine (nvalid_is (f := f) hn9 (hD.below HB.out) HVA.out).mono ?_
      rintro e w1 ⟨rfl, hb1⟩
      have BK := BX.out.keep hb1
      obtain ⟨q1, l1⟩ := BK.fact (b := W.heap.size) (S := .slice D n c) (by simp)
      obtain ⟨q2, l2⟩ := BK.fact (b := W.heap.size + 1) (S := .slice E m c') (by simp)
      replace BX := Lib.hid BK
      replace HB := Lib.hid (Below.on HB.out hb1)
      clear BK hb1
      go_wp2_with fail
      refine (nvalid_is (f := g) hm9 (hE.below HB.out) HVB.out).mono ?_
      rintro e w2 ⟨rfl, hb2⟩
      clear q1 l1
      clear q2 l2
      have BK := BX.out.keep hb2
      obtain ⟨q3, l3⟩ := BK.fact (b := W.heap.size) (S := .slice D n c) (by simp)
      obtain ⟨q4, l4⟩ := BK.fact (b := W.heap.size + 1) (S := .slice E m c') (by simp)
      replace BX := Lib.hid BK
      replace HB := Lib.hid (Below.on HB.out hb2)
      clear BK hb2
      go_wp2_with fail
      refine (divmod_bad (f := f) (g := g) hn9 hm9 (hD.below HB.out) (hE.below HB.out) (.inr ⟨HVA.out, HVB.out⟩)).mono ?_
      rintro e w3 ⟨rfl, hb3⟩
      clear q3 l3
      clear q4 l4
      have BK := BX.out.keep hb3
      obtain ⟨q5, l5⟩ := BK.fact (b := W.heap.size) (S := .slice D n c) (by simp)
      obtain ⟨q6, l6⟩ := BK.fact (b := W.heap.size + 1) (S := .slice E m c') (by simp)
      replace BX := Lib.hid ((BK.cons (.slice none 0 0)).cons (.slice none 0 0))
      replace HB := Lib.hid (bl_alloc' (bl_alloc' (Below.on HB.out hb3) (.cells #[.slice none 0 0] 24)) (.cells #[.slice none 0 0] 24))
      clear BK hb3
      go_wp2_with fail
      refine (divided_any _).mono ?_
      rintro e w4 ⟨rfl, hb4⟩
      clear q5 l5
      clear q6 l6
      have BK := BX.out.keep hb4
      obtain ⟨q7, l7⟩ := BK.fact (b := W.heap.size) (S := .slice D n c) (by simp)
      obtain ⟨q8, l8⟩ := BK.fact (b := W.heap.size + 1) (S := .slice E m c') (by simp)
      obtain ⟨q9, l9⟩ := BK.fact (b := w3.heap.size) (S := .slice none 0 0) (by simp)
      obtain ⟨q10, l10⟩ := BK.fact (b := w3.heap.size + 1) (S := .slice none 0 0) (by simp)
      replace BX := Lib.hid BK
      replace HB := Lib.hid (Below.on HB.out hb4)
      clear BK hb4
      go_wp2
      go_ret
      exact ⟨rfl, HB.out⟩
    | true =>
      by_cases hm0 : m = 0
      · subst hm0
        have HVA := Lib.hid hva
        have HVB := Lib.hid hvb
        clear hva hvb hf hg
        have BX := Lib.hid ((((Bxs.nil W).cons (.slice D n c))).cons (.slice E 0 c'))
        have HB := Lib.hid (bl_alloc' (bl_alloc' (Below.refl W.heap.size W) (.cells #[.slice D n c] 24)) (.cells #[.slice E 0 c'] 24))
        go_enter Try.func10, Try.ntmps10
        go_wp2_with fail
        refine (nvalid_is (f := f) hn9 (hD.below HB.out) HVA.out).mono ?_
        rintro e w1 ⟨rfl, hb1⟩
        have BK := BX.out.keep hb1
        obtain ⟨q1, l1⟩ := BK.fact (b := W.heap.size) (S := .slice D n c) (by simp)
        obtain ⟨q2, l2⟩ := BK.fact (b := W.heap.size + 1) (S := .slice E 0 c') (by simp)
        replace BX := Lib.hid BK
        replace HB := Lib.hid (Below.on HB.out hb1)
        clear BK hb1
        go_wp2_with fail
        refine (nvalid_is (f := g) hm9 (hE.below HB.out) HVB.out).mono ?_
        rintro e w2 ⟨rfl, hb2⟩
        clear q1 l1
        clear q2 l2
        have BK := BX.out.keep hb2
        obtain ⟨q3, l3⟩ := BK.fact (b := W.heap.size) (S := .slice D n c) (by simp)
        obtain ⟨q4, l4⟩ := BK.fact (b := W.heap.size + 1) (S := .slice E 0 c') (by simp)
        replace BX := Lib.hid BK
        replace HB := Lib.hid (Below.on HB.out hb2)
        clear BK hb2
        go_wp2_with fail
        refine (divmod_zero (f := f) (g := g) hn9 (hD.below HB.out) HVA.out).mono ?_
        rintro e w3 ⟨rfl, hb3⟩
        clear q3 l3
        clear q4 l4
        have BK := BX.out.keep hb3
        obtain ⟨q5, l5⟩ := BK.fact (b := W.heap.size) (S := .slice D n c) (by simp)
        obtain ⟨q6, l6⟩ := BK.fact (b := W.heap.size + 1) (S := .slice E 0 c') (by simp)
        replace BX := Lib.hid ((BK.cons (.slice none 0 0)).cons (.slice none 0 0))
        replace HB := Lib.hid (bl_alloc' (bl_alloc' (Below.on HB.out hb3) (.cells #[.slice none 0 0] 24)) (.cells #[.slice none 0 0] 24))
        clear BK hb3
        go_wp2_with fail
        refine (divided_any _).mono ?_
        rintro e w4 ⟨rfl, hb4⟩
        clear q5 l5
        clear q6 l6
        have BK := BX.out.keep hb4
        obtain ⟨q7, l7⟩ := BK.fact (b := W.heap.size) (S := .slice D n c) (by simp)
        obtain ⟨q8, l8⟩ := BK.fact (b := W.heap.size + 1) (S := .slice E 0 c') (by simp)
        obtain ⟨q9, l9⟩ := BK.fact (b := w3.heap.size) (S := .slice none 0 0) (by simp)
        obtain ⟨q10, l10⟩ := BK.fact (b := w3.heap.size + 1) (S := .slice none 0 0) (by simp)
        replace BX := Lib.hid BK
        replace HB := Lib.hid (Below.on HB.out hb4)
        clear BK hb4
        go_wp2
        go_ret
        exact ⟨rfl, HB.out⟩
      · obtain ⟨hn, hLx, hX⟩ := num_of hD hf hva
        obtain ⟨hm, hLy, hY⟩ := num_of hE hg hvb
        generalize v32 f n = x at *
        generalize v32 g m = y at *
        have HLX := Lib.hid hLx
        have HLY := Lib.hid hLy
        have HVA := Lib.hid (vd_true hn hLx)
        have HVB := Lib.hid (vd_true hm hLy)
        have hy0 : 0 < y := by
          rcases Nat.eq_zero_or_pos y with h | h
          · rw [h, L32_zero.2 rfl] at hLy; omega
          · exact h
        have HY0 := Lib.hid hy0
        obtain ⟨q, hq⟩ : ∃ q, q = x / y := ⟨_, rfl⟩
        obtain ⟨r, hr⟩ : ∃ r, r = x % y := ⟨_, rfl⟩
        have HQ := Lib.hid hq.symm
        have HR := Lib.hid hr.symm
        have HSUM := Lib.hid (show q * y + r = x by rw [hq, hr, Nat.mul_comm]; exact Nat.div_add_mod x y)
        have HRY := Lib.hid (show r < y by rw [hr]; exact Nat.mod_lt x hy0)
        have hx64 : L32 x ≤ 64 := by rw [← hLx]; exact hn
        have HX64 := Lib.hid hx64
        have HQ64 := Lib.hid (show L32 q ≤ 64 from Nat.le_trans (Nt.len_mono (by omega) (by rw [hq]; exact Nat.div_le_self x y)) hx64)
        have HR64 := Lib.hid (show L32 r ≤ 64 from Nat.le_trans (Nt.len_mono (by omega) (by rw [hr]; exact Nat.mod_le x y)) hx64)
        have HP64 := Lib.hid (show L32 (q * y) ≤ 64 from Nat.le_trans (Nt.len_mono (by omega) (by have := HSUM.out; omega)) hx64)
        have hxl : ((L32 x : Nat) : Int) = (n : Int) := by rw [← hLx]
        have hm0i : (m : Int) ≠ 0 := by omega
        have hm0d : ((m : Int) == 0) = false := by simp; omega
        clear hva hvb hf hg hD hE hLx hLy hy0 hq hr hx64
        have BX := Lib.hid ((((Bxs.nil W).cons (.slice D n c))).cons (.slice E m c'))
        have HB := Lib.hid (bl_alloc' (bl_alloc' (Below.refl W.heap.size W) (.cells #[.slice D n c] 24)) (.cells #[.slice E m c'] 24))
        go_enter Try.func10, Try.ntmps10
        go_wp2_with fail
        refine (nvalid_is (f := d32 x) hn9 (hX.below HB.out) HVA.out).mono ?_
        rintro e w1 ⟨rfl, hb1⟩
        have BK := BX.out.keep hb1
        obtain ⟨q1, l1⟩ := BK.fact (b := W.heap.size) (S := .slice D n c) (by simp)
        obtain ⟨q2, l2⟩ := BK.fact (b := W.heap.size + 1) (S := .slice E m c') (by simp)
        replace BX := Lib.hid BK
        replace HB := Lib.hid (Below.on HB.out hb1)
        clear BK hb1
        go_wp2_with fail
        refine (nvalid_is (f := d32 y) hm9 (hY.below HB.out) HVB.out).mono ?_
        rintro e w2 ⟨rfl, hb2⟩
        clear q1 l1
        clear q2 l2
        have BK := BX.out.keep hb2
        obtain ⟨q3, l3⟩ := BK.fact (b := W.heap.size) (S := .slice D n c) (by simp)
        obtain ⟨q4, l4⟩ := BK.fact (b := W.heap.size + 1) (S := .slice E m c') (by simp)
        replace BX := Lib.hid BK
        replace HB := Lib.hid (Below.on HB.out hb2)
        clear BK hb2
        go_wp2_with fail
        refine (div_to (x := x) (y := y) (q := q) (r := r) hn hm HLX.out HLY.out (hX.below HB.out) (hY.below HB.out) HY0.out HQ.out HR.out).mono ?_
        rintro e w3 ⟨D3, c3, D3b, c3b, rfl, hc3, hd3, hb3⟩
        clear q3 l3
        clear q4 l4
        have BK := BX.out.keep hb3
        obtain ⟨q5, l5⟩ := BK.fact (b := W.heap.size) (S := .slice D n c) (by simp)
        obtain ⟨q6, l6⟩ := BK.fact (b := W.heap.size + 1) (S := .slice E m c') (by simp)
        replace BX := Lib.hid ((BK.cons (.slice D3 (L32 (q)) c3)).cons (.slice D3b (L32 (r)) c3b))
        replace HB := Lib.hid (bl_alloc' (bl_alloc' (Below.on HB.out hb3) (.cells #[.slice D3 (L32 (q)) c3] 24)) (.cells #[.slice D3b (L32 (r)) c3b] 24))
        have HC3 := Lib.hid ((hc3.alloc (.cells #[.slice D3 (L32 (q)) c3] 24)).alloc (.cells #[.slice D3b (L32 (r)) c3b] 24))
        have HC3b := Lib.hid ((hd3.alloc (.cells #[.slice D3 (L32 (q)) c3] 24)).alloc (.cells #[.slice D3b (L32 (r)) c3b] 24))
        clear hc3 hd3
        clear BK hb3
        go_wp2_with fail
        refine (res_yes (mul_any (x := q) (y := y) HQ64.out hm rfl HLY.out HC3.out (hY.below HB.out)) HP64.out).mono ?_
        rintro e w4 ⟨D4, c4, rfl, hl4, hc4, hb4⟩
        clear q5 l5
        clear q6 l6
        have BK := BX.out.keep hb4
        obtain ⟨q7, l7⟩ := BK.fact (b := W.heap.size) (S := .slice D n c) (by simp)
        obtain ⟨q8, l8⟩ := BK.fact (b := W.heap.size + 1) (S := .slice E m c') (by simp)
        obtain ⟨q9, l9⟩ := BK.fact (b := w3.heap.size) (S := .slice D3 (L32 (q)) c3) (by simp)
        obtain ⟨q10, l10⟩ := BK.fact (b := w3.heap.size + 1) (S := .slice D3b (L32 (r)) c3b) (by simp)
        replace BX := Lib.hid (BK.cons (.slice D4 (L32 (q * y)) c4))
        replace HB := Lib.hid (bl_alloc' (Below.on HB.out hb4) (.cells #[.slice D4 (L32 (q * y)) c4] 24))
        replace HC3 := Lib.hid ((HC3.out.below hb4).alloc (.cells #[.slice D4 (L32 (q * y)) c4] 24))
        replace HC3b := Lib.hid ((HC3b.out.below hb4).alloc (.cells #[.slice D4 (L32 (q * y)) c4] 24))
        have HC4 := Lib.hid (hc4.alloc (.cells #[.slice D4 (L32 (q * y)) c4] 24))
        clear hc4
        clear BK hb4
        go_wp2_with fail
        refine (add_to (x := q * y) (y := r) (z := x) HP64.out HR64.out rfl rfl HC4.out HC3b.out HSUM.out HX64.out).mono ?_
        rintro e w5 ⟨D5, c5, rfl, hl5, hc5, hb5⟩
        clear q7 l7
        clear q8 l8
        clear q9 l9
        clear q10 l10
        have BK := BX.out.keep hb5
        obtain ⟨q11, l11⟩ := BK.fact (b := W.heap.size) (S := .slice D n c) (by simp)
        obtain ⟨q12, l12⟩ := BK.fact (b := W.heap.size + 1) (S := .slice E m c') (by simp)
        obtain ⟨q13, l13⟩ := BK.fact (b := w3.heap.size) (S := .slice D3 (L32 (q)) c3) (by simp)
        obtain ⟨q14, l14⟩ := BK.fact (b := w3.heap.size + 1) (S := .slice D3b (L32 (r)) c3b) (by simp)
        obtain ⟨q15, l15⟩ := BK.fact (b := w4.heap.size) (S := .slice D4 (L32 (q * y)) c4) (by simp)
        replace BX := Lib.hid (BK.cons (.slice D5 (L32 (x)) c5))
        replace HB := Lib.hid (bl_alloc' (Below.on HB.out hb5) (.cells #[.slice D5 (L32 (x)) c5] 24))
        replace HC3 := Lib.hid ((HC3.out.below hb5).alloc (.cells #[.slice D5 (L32 (x)) c5] 24))
        replace HC3b := Lib.hid ((HC3b.out.below hb5).alloc (.cells #[.slice D5 (L32 (x)) c5] 24))
        replace HC4 := Lib.hid ((HC4.out.below hb5).alloc (.cells #[.slice D5 (L32 (x)) c5] 24))
        have HC5 := Lib.hid (hc5.alloc (.cells #[.slice D5 (L32 (x)) c5] 24))
        clear hc5
        clear BK hb5
        go_wp2_with fail
        refine (nvalid_is (f := d32 q) (by have := HQ64.out; omega) HC3.out (vd_true HQ64.out rfl)).mono ?_
        rintro e w6 ⟨rfl, hb6⟩
        clear q11 l11
        clear q12 l12
        clear q13 l13
        clear q14 l14
        clear q15 l15
        have BK := BX.out.keep hb6
        obtain ⟨q16, l16⟩ := BK.fact (b := W.heap.size) (S := .slice D n c) (by simp)
        obtain ⟨q17, l17⟩ := BK.fact (b := W.heap.size + 1) (S := .slice E m c') (by simp)
        obtain ⟨q18, l18⟩ := BK.fact (b := w3.heap.size) (S := .slice D3 (L32 (q)) c3) (by simp)
        obtain ⟨q19, l19⟩ := BK.fact (b := w3.heap.size + 1) (S := .slice D3b (L32 (r)) c3b) (by simp)
        obtain ⟨q20, l20⟩ := BK.fact (b := w4.heap.size) (S := .slice D4 (L32 (q * y)) c4) (by simp)
        obtain ⟨q21, l21⟩ := BK.fact (b := w5.heap.size) (S := .slice D5 (L32 (x)) c5) (by simp)
        replace BX := Lib.hid BK
        replace HB := Lib.hid (Below.on HB.out hb6)
        replace HC3 := Lib.hid (HC3.out.below hb6)
        replace HC3b := Lib.hid (HC3b.out.below hb6)
        replace HC4 := Lib.hid (HC4.out.below hb6)
        replace HC5 := Lib.hid (HC5.out.below hb6)
        clear BK hb6
        go_wp2_with fail
        refine (nvalid_is (f := d32 r) (by have := HR64.out; omega) HC3b.out (vd_true HR64.out rfl)).mono ?_
        rintro e w7 ⟨rfl, hb7⟩
        clear q16 l16
        clear q17 l17
        clear q18 l18
        clear q19 l19
        clear q20 l20
        clear q21 l21
        have BK := BX.out.keep hb7
        obtain ⟨q22, l22⟩ := BK.fact (b := W.heap.size) (S := .slice D n c) (by simp)
        obtain ⟨q23, l23⟩ := BK.fact (b := W.heap.size + 1) (S := .slice E m c') (by simp)
        obtain ⟨q24, l24⟩ := BK.fact (b := w3.heap.size) (S := .slice D3 (L32 (q)) c3) (by simp)
        obtain ⟨q25, l25⟩ := BK.fact (b := w3.heap.size + 1) (S := .slice D3b (L32 (r)) c3b) (by simp)
        obtain ⟨q26, l26⟩ := BK.fact (b := w4.heap.size) (S := .slice D4 (L32 (q * y)) c4) (by simp)
        obtain ⟨q27, l27⟩ := BK.fact (b := w5.heap.size) (S := .slice D5 (L32 (x)) c5) (by simp)
        replace BX := Lib.hid BK
        replace HB := Lib.hid (Below.on HB.out hb7)
        replace HC3 := Lib.hid (HC3.out.below hb7)
        replace HC3b := Lib.hid (HC3b.out.below hb7)
        replace HC4 := Lib.hid (HC4.out.below hb7)
        replace HC5 := Lib.hid (HC5.out.below hb7)
        clear BK hb7
        go_wp2_with fail
        refine (ncmp_lt (x := r) (y := y) HR64.out hm rfl HLY.out HC3b.out (hY.below HB.out) HRY.out).mono ?_
        rintro e w8 ⟨rfl, hb8⟩
        clear q22 l22
        clear q23 l23
        clear q24 l24
        clear q25 l25
        clear q26 l26
        clear q27 l27
        have BK := BX.out.keep hb8
        obtain ⟨q28, l28⟩ := BK.fact (b := W.heap.size) (S := .slice D n c) (by simp)
        obtain ⟨q29, l29⟩ := BK.fact (b := W.heap.size + 1) (S := .slice E m c') (by simp)
        obtain ⟨q30, l30⟩ := BK.fact (b := w3.heap.size) (S := .slice D3 (L32 (q)) c3) (by simp)
        obtain ⟨q31, l31⟩ := BK.fact (b := w3.heap.size + 1) (S := .slice D3b (L32 (r)) c3b) (by simp)
        obtain ⟨q32, l32⟩ := BK.fact (b := w4.heap.size) (S := .slice D4 (L32 (q * y)) c4) (by simp)
        obtain ⟨q33, l33⟩ := BK.fact (b := w5.heap.size) (S := .slice D5 (L32 (x)) c5) (by simp)
        replace BX := Lib.hid BK
        replace HB := Lib.hid (Below.on HB.out hb8)
        replace HC3 := Lib.hid (HC3.out.below hb8)
        replace HC3b := Lib.hid (HC3b.out.below hb8)
        replace HC4 := Lib.hid (HC4.out.below hb8)
        replace HC5 := Lib.hid (HC5.out.below hb8)
        clear BK hb8
        go_wp2_with fail
        refine (ncmp_eq (x := x) (y := x) HX64.out hn rfl HLX.out HC5.out (hX.below HB.out) rfl).mono ?_
        rintro e w9 ⟨rfl, hb9⟩
        clear q28 l28
        clear q29 l29
        clear q30 l30
        clear q31 l31
        clear q32 l32
        clear q33 l33
        have BK := BX.out.keep hb9
        obtain ⟨q34, l34⟩ := BK.fact (b := W.heap.size) (S := .slice D n c) (by simp)
        obtain ⟨q35, l35⟩ := BK.fact (b := W.heap.size + 1) (S := .slice E m c') (by simp)
        obtain ⟨q36, l36⟩ := BK.fact (b := w3.heap.size) (S := .slice D3 (L32 (q)) c3) (by simp)
        obtain ⟨q37, l37⟩ := BK.fact (b := w3.heap.size + 1) (S := .slice D3b (L32 (r)) c3b) (by simp)
        obtain ⟨q38, l38⟩ := BK.fact (b := w4.heap.size) (S := .slice D4 (L32 (q * y)) c4) (by simp)
        obtain ⟨q39, l39⟩ := BK.fact (b := w5.heap.size) (S := .slice D5 (L32 (x)) c5) (by simp)
        replace BX := Lib.hid BK
        replace HB := Lib.hid (Below.on HB.out hb9)
        replace HC3 := Lib.hid (HC3.out.below hb9)
        replace HC3b := Lib.hid (HC3b.out.below hb9)
        replace HC4 := Lib.hid (HC4.out.below hb9)
        replace HC5 := Lib.hid (HC5.out.below hb9)
        clear BK hb9
        go_wp2_with fail
        refine (divided_any _).mono ?_
        rintro e w10 ⟨rfl, hb10⟩
        clear q34 l34
        clear q35 l35
        clear q36 l36
        clear q37 l37
        clear q38 l38
        clear q39 l39
        have BK := BX.out.keep hb10
        obtain ⟨q40, l40⟩ := BK.fact (b := W.heap.size) (S := .slice D n c) (by simp)
        obtain ⟨q41, l41⟩ := BK.fact (b := W.heap.size + 1) (S := .slice E m c') (by simp)
        obtain ⟨q42, l42⟩ := BK.fact (b := w3.heap.size) (S := .slice D3 (L32 (q)) c3) (by simp)
        obtain ⟨q43, l43⟩ := BK.fact (b := w3.heap.size + 1) (S := .slice D3b (L32 (r)) c3b) (by simp)
        obtain ⟨q44, l44⟩ := BK.fact (b := w4.heap.size) (S := .slice D4 (L32 (q * y)) c4) (by simp)
        obtain ⟨q45, l45⟩ := BK.fact (b := w5.heap.size) (S := .slice D5 (L32 (x)) c5) (by simp)
        replace BX := Lib.hid BK
        replace HB := Lib.hid (Below.on HB.out hb10)
        replace HC3 := Lib.hid (HC3.out.below hb10)
        replace HC3b := Lib.hid (HC3b.out.below hb10)
        replace HC4 := Lib.hid (HC4.out.below hb10)
        replace HC5 := Lib.hid (HC5.out.below hb10)
        clear BK hb10
        go_wp2
        go_ret
        exact ⟨rfl, HB.out⟩
end Go.Proofs.Ythjbkadhgcjnaaa
