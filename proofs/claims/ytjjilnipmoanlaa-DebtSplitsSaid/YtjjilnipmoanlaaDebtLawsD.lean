/- The walk of the law DebtSplits. -/
import Derived.Test.YtjjilnipmoanlaaDebtForms
import Derived.Test.YtjjilnipmoanlaaDebtFacts
set_option linter.unusedVariables false
namespace Go.Proofs.Ytjjilnipmoanlaa
open Go.RowKit

theorem Cells.congr {w : World} {D : Option Addr} {m : Nat} {G G' : Nat → Value} (h : Cells w D m G) (he : ∀ j, j < m → G j = G' j) : Cells w D m G' := fun hm => by
  obtain ⟨b, off, e, hlt, hc⟩ := h hm
  exact ⟨b, off, e, hlt, fun j hj => by rw [hc j hj, he j hj]⟩
theorem rest_twice {C : Nat → ByteArray} {R A : Nat → Int} {x y : Int} {n : Nat} (hx : 0 ≤ x) (hy : 0 ≤ y) (hA : ∀ i, i < n → 1 ≤ A i) (j : Nat) (hj : j < Db.cnt A (Db.get A (x + y)) n * 3) :
    Rest (fun j => C (Db.sel A (Db.get A x) n j)) (fun j => R (Db.sel A (Db.get A x) n j)) (fun j => Db.rem A x (Db.sel A (Db.get A x) n j)) (Db.get (fun j => Db.rem A x (Db.sel A (Db.get A x) n j)) y) (Db.cnt A (Db.get A x) n) j = Rest C R A (Db.get A (x + y)) n j := by
  have hq : j / 3 < Db.cnt A (Db.get A (x + y)) n := by omega
  have h1 := Db.sel_twice hx hy hA hq
  have h2 := Db.cnt_twice hx hy hA
  have h3 := Db.sel_in (show j / 3 < Db.cnt (fun j => Db.rem A x (Db.sel A (Db.get A x) n j)) (Db.get (fun j => Db.rem A x (Db.sel A (Db.get A x) n j)) y) (Db.cnt A (Db.get A x) n) by rw [h2]; exact hq)
  have h4 := Db.rem_twice hx hy hA h3.1
  unfold Rest Three
  have h5 : (fun j => Db.rem A x (Db.sel A (Db.get A x) n j)) (Db.sel (fun j => Db.rem A x (Db.sel A (Db.get A x) n j)) (Db.get (fun j => Db.rem A x (Db.sel A (Db.get A x) n j)) y) (Db.cnt A (Db.get A x) n) (j / 3)) - Db.get (fun j => Db.rem A x (Db.sel A (Db.get A x) n j)) y (Db.sel (fun j => Db.rem A x (Db.sel A (Db.get A x) n j)) (Db.get (fun j => Db.rem A x (Db.sel A (Db.get A x) n j)) y) (Db.cnt A (Db.get A x) n) (j / 3)) = A (Db.sel A (Db.get A x) n (Db.sel (fun j => Db.rem A x (Db.sel A (Db.get A x) n j)) (Db.get (fun j => Db.rem A x (Db.sel A (Db.get A x) n j)) y) (Db.cnt A (Db.get A x) n) (j / 3))) - Db.get A (x + y) (Db.sel A (Db.get A x) n (Db.sel (fun j => Db.rem A x (Db.sel A (Db.get A x) n j)) (Db.get (fun j => Db.rem A x (Db.sel A (Db.get A x) n j)) y) (Db.cnt A (Db.get A x) n) (j / 3))) := h4
  by_cases a0 : j % 3 = 0
  · rw [if_pos a0, if_pos a0]
    exact congrArg (fun z => Value.string (C z)) h1.symm
  · by_cases a1 : j % 3 = 1
    · rw [if_neg a0, if_neg a0, if_pos a1, if_pos a1]
      exact congrArg (fun z => Value.int .i64 (R z)) h1.symm
    · rw [if_neg a0, if_neg a0, if_neg a1, if_neg a1]
      exact congrArg (Value.int .i64) (h5.trans (congrArg (fun z => A z - Db.get A (x + y) z) h1.symm))

set_option maxHeartbeats 1000000 in
set_option maxRecDepth 100000 in
theorem debtSplits_walk (W : World) {D : Option Addr} {n c : Nat} {C : Nat → ByteArray} {R A : Nat → Int} (hn : n ≤ c) (hc : c ≤ maxLen) (h : Cells W D (n * 3) (Three C R A)) (hC : ∀ i, i < n → (C i).size ≤ maxLen) (hw : ∀ i, i < n → (Lit.int .i64 (R i)).wf = true ∧ (Lit.int .i64 (A i)).wf = true) (x : Int) (wx : (Lit.int .i64 x).wf = true) (y : Int) (wy : (Lit.int .i64 y).wf = true) :
    Calls Try.prog 14 #[.slice D n c, .int .i64 x, .int .i64 y] W fun e w' => e = .returned (.bool true) ∧ Below W.heap.size W w' := by
  have hn9 : n ≤ 9223372036854775807 := by unfold maxLen at hc; omega
  clear hw
  have bx := bounds_i64 wx
  have by' := bounds_i64 wy
  obtain ⟨bx0, bx1⟩ := bx
  obtain ⟨by0, by1⟩ := by'
  clear wx wy
  by_cases h4 : 1000 < n
  · go_enter Try.func14, Try.ntmps14
    go_wp2_with fail
    refine (awake46 _).mono ?_
    rintro e w9 ⟨rfl, hb9⟩
    have hb := hb9
    clear hb9
    go_wp2
    go_ret
    exact ⟨rfl, hb⟩
  by_cases g : x < 0
  · go_enter Try.func14, Try.ntmps14
    go_wp2_with fail
    refine (awake46 _).mono ?_
    rintro e w9 ⟨rfl, hb9⟩
    have hb := hb9
    clear hb9
    go_wp2
    go_ret
    exact ⟨rfl, hb⟩
  have x0 : 0 ≤ x := by omega
  clear g
  by_cases g : y < 0
  · go_enter Try.func14, Try.ntmps14
    go_wp2_with fail
    refine (awake46 _).mono ?_
    rintro e w9 ⟨rfl, hb9⟩
    have hb := hb9
    clear hb9
    go_wp2
    go_ret
    exact ⟨rfl, hb⟩
  have y0 : 0 ≤ y := by omega
  clear g
  by_cases g : 1000000000000 < x
  · go_enter Try.func14, Try.ntmps14
    go_wp2_with fail
    refine (awake46 _).mono ?_
    rintro e w9 ⟨rfl, hb9⟩
    have hb := hb9
    clear hb9
    go_wp2
    go_ret
    exact ⟨rfl, hb⟩
  have x1 : x ≤ 1000000000000 := by omega
  clear g
  by_cases g : 1000000000000 - x < y
  · go_enter Try.func14, Try.ntmps14
    go_wp2_with fail
    refine (awake46 _).mono ?_
    rintro e w9 ⟨rfl, hb9⟩
    have hb := hb9
    clear hb9
    go_wp2
    go_ret
    exact ⟨rfl, hb⟩
  have xy1 : x + y ≤ 1000000000000 := by omega
  clear g
  by_cases ho : Db.oerr C R A n x = 0
  · have hck := (Db.oerr_ok ho).1
    have hn16 := (Db.of_chk hck).1
    have hA : ∀ i, i < n → 1 ≤ A i := fun i hi => (Db.ok_in hck hi).2.2.1
    have hpay := Db.payOk_get x0 hA
    have hpay3 := Db.payOk_get (show 0 ≤ x + y by omega) hA
    have hcr := Db.chk_rest hck hpay
    have hle := Db.cnt_le A (Db.get A x) n
    have hCr : ∀ i, i < Db.cnt A (Db.get A x) n → (C (Db.sel A (Db.get A x) n i)).size ≤ maxLen := fun i hi => hC _ (Db.sel_in hi).1
    have ho3 := Db.oerr_of (C := C) (R := R) (A := A) (n := n) (a := x + y) hck (by omega) xy1
    have hct := Db.cnt_twice x0 y0 hA
    have hrt := rest_twice (C := C) (R := R) x0 y0 hA
    obtain ⟨m, hm⟩ : ∃ m, Db.cnt A (Db.get A x) n = m := ⟨_, rfl⟩
    obtain ⟨q, hq⟩ : ∃ q, Db.cnt A (Db.get A (x + y)) n = q := ⟨_, rfl⟩
    obtain ⟨C1, hC1⟩ : ∃ C1, C1 = fun j => C (Db.sel A (Db.get A x) n j) := ⟨_, rfl⟩
    obtain ⟨R1, hR1⟩ : ∃ R1, R1 = fun j => R (Db.sel A (Db.get A x) n j) := ⟨_, rfl⟩
    obtain ⟨A1, hA1⟩ : ∃ A1, A1 = fun j => Db.rem A x (Db.sel A (Db.get A x) n j) := ⟨_, rfl⟩
    have hR : Rest C R A (Db.get A x) n = Three C1 R1 A1 := by rw [hC1, hR1, hA1]; rfl
    have hcr1 : Db.chk C1 R1 A1 m = 0 := by rw [hC1, hR1, hA1, ← hm]; exact hcr
    rw [hq, ← hA1, hm] at hct
    rw [hq, ← hC1, ← hR1, ← hA1, hm] at hrt
    have hCr1 : ∀ i, i < m → (C1 i).size ≤ maxLen := by rw [hC1, ← hm]; exact hCr
    rw [hm] at hle
    have ho1 : Db.oerr C1 R1 A1 m y = 0 := Db.oerr_of hcr1 y0 (by omega)
    have hpay1 : Db.payOk A1 (Db.get A1 y) m = true := Db.payOk_get y0 fun i hi => (Db.ok_in hcr1 hi).2.2.1
    have hqm : q ≤ m := by rw [← hct]; exact Db.cnt_le _ _ _
    have HM := Lib.hid hm
    have HQ := Lib.hid hq
    have HR := Lib.hid hR
    have Hcr1 := Lib.hid hcr1
    have Hct := Lib.hid hct
    have Hrt := Lib.hid hrt
    have HCr1 := Lib.hid hCr1
    have Ho1 := Lib.hid ho1
    have Hpay1 := Lib.hid hpay1
    have Hpay := Lib.hid hpay
    have Hpay3 := Lib.hid hpay3
    have Ho3 := Lib.hid ho3
    have Hck := Lib.hid hck
    have Ho := Lib.hid ho
    clear hm hq hR hcr1 hct hrt hCr1 ho1 hpay1 hpay hpay3 ho3 hck ho hA hcr hCr hC1 hR1 hA1
    go_enter Try.func14, Try.ntmps14
    go_wp2_with fail
    refine (offset_good hn9 h hC Ho.out).mono ?_
    rintro e w1 ⟨D1, c1, rfl, k1, hb⟩
    go_wp2_with fail
    refine (reduce_good hn9 (h.below hb) hC k1 Hck.out Hpay.out HM.out).mono ?_
    rintro e w2 ⟨D2, c2, rfl, k2, hb2⟩
    rw [HR.out] at k2
    replace hb := Below.on hb hb2
    clear hb2 k1
    go_wp2_with fail
    refine (offset_good (by omega) k2 HCr1.out Ho1.out).mono ?_
    rintro e w3 ⟨D3, c3, rfl, k3, hb3⟩
    replace k2 := k2.below hb3
    replace hb := Below.on hb hb3
    clear hb3
    go_wp2_with fail
    refine (reduce_good (by omega) k2 HCr1.out k3 Hcr1.out Hpay1.out Hct.out).mono ?_
    rintro e w4 ⟨D4, c4, rfl, k4, hb4⟩
    replace hb := Below.on hb hb4
    clear hb4 k2 k3
    go_wp2_with fail
    refine (offset_good hn9 (h.below hb) hC Ho3.out).mono ?_
    rintro e w5 ⟨D5, c5, rfl, k5, hb5⟩
    replace k4 := k4.below hb5
    replace hb := Below.on hb hb5
    clear hb5
    go_wp2_with fail
    refine (reduce_good hn9 (h.below hb) hC k5 Hck.out Hpay3.out HQ.out).mono ?_
    rintro e w6 ⟨D6, c6, rfl, k6, hb6⟩
    replace k4 := (k4.below hb6).congr Hrt.out
    replace hb := Below.on hb hb6
    clear hb6 k5
    go_wp2_with fail
    refine (Same_yes (by omega) k4 k6).mono ?_
    rintro e w7 ⟨rfl, hb7⟩
    replace hb := Below.on hb hb7
    clear hb7 k4 k6
    go_wp2_with fail
    refine (awake46 _).mono ?_
    rintro e w9 ⟨rfl, hb9⟩
    replace hb := Below.on hb hb9
    clear hb9
    go_wp2
    go_ret
    exact ⟨rfl, hb⟩
  · obtain ⟨e0, hy⟩ : ∃ e0, e0 = Db.oerr C R A n x := ⟨_, rfl⟩
    rw [← hy] at ho
    have Hy := Lib.hid hy
    clear hy
    go_enter Try.func14, Try.ntmps14
    go_wp2_with fail
    refine (offset_bad hn9 h hC Hy.out.symm ho).mono ?_
    rintro e w9 ⟨rfl, hb9⟩
    have hb := hb9
    clear hb9
    go_wp2_with fail
    refine (awake46 _).mono ?_
    rintro e w9 ⟨rfl, hb9⟩
    replace hb := Below.on hb hb9
    clear hb9
    go_wp2
    go_ret
    exact ⟨rfl, hb⟩
end Go.Proofs.Ytjjilnipmoanlaa
