/- The walks of the laws on taxes that do without the reference: monotone, and one step at a time. -/
import Derived.Test.YtjjilnipmoanlaaTaxAwake
set_option linter.unusedVariables false
namespace Go.Proofs.Ytjjilnipmoanlaa
open Go.RowKit

theorem taxMonotone_walk (W : World) {A : Option Addr} {n c : Nat} {F R : Nat → Int} (hn : n ≤ c) (hc : c ≤ maxLen) (h : Cells W A (n * 2) (Two F R)) (hw : ∀ i, i < n → (Lit.int .i64 (F i)).wf = true ∧ (Lit.int .i64 (R i)).wf = true) (a : Int) (wa : (Lit.int .i64 a).wf = true) (b : Int) (wb : (Lit.int .i64 b).wf = true) :
    Calls Try.prog 5 #[.slice A n c, .int .i64 a, .int .i64 b] W fun e w' => e = .returned (.bool true) ∧ Below W.heap.size W w' := by
  unfold maxLen at hc
  clear hw
  clear wa wb
  by_cases h4 : 40 < n
  · go_enter Try.func5, Try.ntmps5
    go_wp2_with fail
    refine (awake45 _).mono ?_
    rintro e w9 ⟨rfl, hb9⟩
    have hb := hb9
    clear hb9
    go_wp2
    go_ret
    exact ⟨rfl, hb⟩
  · have e1 : ∃ x ea, x = Tx.val n F R a ∧ ea = Tx.err n F R a := ⟨_, _, rfl, rfl⟩
    obtain ⟨x, ea, hx, hea⟩ := e1
    have e2 : ∃ y eb, y = Tx.val n F R b ∧ eb = Tx.err n F R b := ⟨_, _, rfl, rfl⟩
    obtain ⟨y, eb, hy, heb⟩ := e2
    by_cases ha : ea = 0
    · by_cases hb0 : eb = 0
      · subst ha hb0
        have hA := Tx.err_ok hea.symm
        have hB := Tx.err_ok heb.symm
        have ba := Tx.bounds_of hea.symm
        have bb := Tx.bounds_of heb.symm
        have a0 : 0 ≤ a := hA.2.2.1
        have a1 : a ≤ 1000000000000 := hA.2.2.2.1
        have b0 : 0 ≤ b := hB.2.2.1
        have b1 : b ≤ 1000000000000 := hB.2.2.2.1
        have x0 : 0 ≤ x := by rw [hx]; exact ba.1
        have x1 : x ≤ a := by rw [hx]; exact ba.2.1
        have y0 : 0 ≤ y := by rw [hy]; exact bb.1
        have y1 : y ≤ b := by rw [hy]; exact bb.2.1
        by_cases hab : b < a
        · have hm := Tx.mono_of heb.symm hea.symm (by omega)
          rw [← hx, ← hy] at hm
          clear hA hB ba bb
          have Hx := Lib.hid hx
          have Hy := Lib.hid hy
          have Ha := Lib.hid hea
          have Hb := Lib.hid heb
          clear hx hy hea heb
          go_enter Try.func5, Try.ntmps5
          go_wp2_with fail
          refine (tax_at (x := x) (y := 0) (by omega) h Hx.out.symm Ha.out.symm).mono ?_
          rintro e w9 ⟨rfl, hb9⟩
          have hb := hb9
          clear hb9
          go_wp2_with fail
          refine (tax_at (x := y) (y := 0) (by omega) (h.below hb) Hy.out.symm Hb.out.symm).mono ?_
          rintro e w9 ⟨rfl, hb9⟩
          replace hb := Below.on hb hb9
          clear hb9
          go_wp2_with fail
          refine (awake45 _).mono ?_
          rintro e w9 ⟨rfl, hb9⟩
          replace hb := Below.on hb hb9
          clear hb9
          go_wp2
          go_ret
          exact ⟨rfl, hb⟩
        · have hm := Tx.mono_of hea.symm heb.symm (by omega)
          rw [← hx, ← hy] at hm
          clear hA hB ba bb
          have Hx := Lib.hid hx
          have Hy := Lib.hid hy
          have Ha := Lib.hid hea
          have Hb := Lib.hid heb
          clear hx hy hea heb
          go_enter Try.func5, Try.ntmps5
          go_wp2_with fail
          refine (tax_at (x := x) (y := 0) (by omega) h Hx.out.symm Ha.out.symm).mono ?_
          rintro e w9 ⟨rfl, hb9⟩
          have hb := hb9
          clear hb9
          go_wp2_with fail
          refine (tax_at (x := y) (y := 0) (by omega) (h.below hb) Hy.out.symm Hb.out.symm).mono ?_
          rintro e w9 ⟨rfl, hb9⟩
          replace hb := Below.on hb hb9
          clear hb9
          go_wp2_with fail
          refine (awake45 _).mono ?_
          rintro e w9 ⟨rfl, hb9⟩
          replace hb := Below.on hb hb9
          clear hb9
          go_wp2
          go_ret
          exact ⟨rfl, hb⟩
      · subst ha
        have hy0 : y = 0 := by rw [hy]; exact Tx.val_bad (by rw [← heb]; exact hb0)
        subst hy0
        have Hx := Lib.hid hx
        have Hy := Lib.hid hy
        have Ha := Lib.hid hea
        have Hb := Lib.hid heb
        clear hx hy hea heb
        go_enter Try.func5, Try.ntmps5
        go_wp2_with fail
        refine (tax_at (x := x) (y := 0) (by omega) h Hx.out.symm Ha.out.symm).mono ?_
        rintro e w9 ⟨rfl, hb9⟩
        have hb := hb9
        clear hb9
        go_wp2_with fail
        refine (tax_at (x := 0) (y := eb) (by omega) (h.below hb) Hy.out.symm Hb.out.symm).mono ?_
        rintro e w9 ⟨rfl, hb9⟩
        replace hb := Below.on hb hb9
        clear hb9
        go_wp2_with fail
        refine (awake45 _).mono ?_
        rintro e w9 ⟨rfl, hb9⟩
        replace hb := Below.on hb hb9
        clear hb9
        go_wp2
        go_ret
        exact ⟨rfl, hb⟩
    · have hx0 : x = 0 := by rw [hx]; exact Tx.val_bad (by rw [← hea]; exact ha)
      subst hx0
      by_cases hb0 : eb = 0
      · subst hb0
        have Hx := Lib.hid hx
        have Hy := Lib.hid hy
        have Ha := Lib.hid hea
        have Hb := Lib.hid heb
        clear hx hy hea heb
        go_enter Try.func5, Try.ntmps5
        go_wp2_with fail
        refine (tax_at (x := 0) (y := ea) (by omega) h Hx.out.symm Ha.out.symm).mono ?_
        rintro e w9 ⟨rfl, hb9⟩
        have hb := hb9
        clear hb9
        go_wp2_with fail
        refine (tax_at (x := y) (y := 0) (by omega) (h.below hb) Hy.out.symm Hb.out.symm).mono ?_
        rintro e w9 ⟨rfl, hb9⟩
        replace hb := Below.on hb hb9
        clear hb9
        go_wp2_with fail
        refine (awake45 _).mono ?_
        rintro e w9 ⟨rfl, hb9⟩
        replace hb := Below.on hb hb9
        clear hb9
        go_wp2
        go_ret
        exact ⟨rfl, hb⟩
      · have hy0 : y = 0 := by rw [hy]; exact Tx.val_bad (by rw [← heb]; exact hb0)
        subst hy0
        have Hx := Lib.hid hx
        have Hy := Lib.hid hy
        have Ha := Lib.hid hea
        have Hb := Lib.hid heb
        clear hx hy hea heb
        go_enter Try.func5, Try.ntmps5
        go_wp2_with fail
        refine (tax_at (x := 0) (y := ea) (by omega) h Hx.out.symm Ha.out.symm).mono ?_
        rintro e w9 ⟨rfl, hb9⟩
        have hb := hb9
        clear hb9
        go_wp2_with fail
        refine (tax_at (x := 0) (y := eb) (by omega) (h.below hb) Hy.out.symm Hb.out.symm).mono ?_
        rintro e w9 ⟨rfl, hb9⟩
        replace hb := Below.on hb hb9
        clear hb9
        go_wp2_with fail
        refine (awake45 _).mono ?_
        rintro e w9 ⟨rfl, hb9⟩
        replace hb := Below.on hb hb9
        clear hb9
        go_wp2
        go_ret
        exact ⟨rfl, hb⟩

theorem taxSteps_walk (W : World) {A : Option Addr} {n c : Nat} {F R : Nat → Int} (hn : n ≤ c) (hc : c ≤ maxLen) (h : Cells W A (n * 2) (Two F R)) (hw : ∀ i, i < n → (Lit.int .i64 (F i)).wf = true ∧ (Lit.int .i64 (R i)).wf = true) (a : Int) (wa : (Lit.int .i64 a).wf = true) :
    Calls Try.prog 6 #[.slice A n c, .int .i64 a] W fun e w' => e = .returned (.bool true) ∧ Below W.heap.size W w' := by
  unfold maxLen at hc
  clear hw
  clear wa
  by_cases h4 : 40 < n
  · go_enter Try.func6, Try.ntmps6
    go_wp2_with fail
    refine (awake45 _).mono ?_
    rintro e w9 ⟨rfl, hb9⟩
    have hb := hb9
    clear hb9
    go_wp2
    go_ret
    exact ⟨rfl, hb⟩
  by_cases ha9 : 1000000000000 ≤ a
  · go_enter Try.func6, Try.ntmps6
    go_wp2_with fail
    refine (awake45 _).mono ?_
    rintro e w9 ⟨rfl, hb9⟩
    have hb := hb9
    clear hb9
    go_wp2
    go_ret
    exact ⟨rfl, hb⟩
  have e1 : ∃ x ea, x = Tx.val n F R a ∧ ea = Tx.err n F R a := ⟨_, _, rfl, rfl⟩
  obtain ⟨x, ea, hx, hea⟩ := e1
  by_cases ha : ea = 0
  · subst ha
    obtain ⟨y, hy⟩ : ∃ y, y = Tx.val n F R (a + 1) := ⟨_, rfl⟩
    have hA := Tx.err_ok hea.symm
    have heb := Tx.next_of hea.symm (by omega)
    have ba := Tx.bounds_of hea.symm
    have bb := Tx.bounds_of heb
    have hm := Tx.mono_of hea.symm heb (by omega)
    rw [← hx, ← hy] at hm
    rw [← hx] at ba
    rw [← hy] at bb
    have a0 : 0 ≤ a := hA.2.2.1
    have x0 := ba.1
    have x1 := ba.2.1
    have y0 := bb.1
    have y1 := bb.2.1
    obtain ⟨m0, m1⟩ := hm
    clear hA ba bb
    have m2 : y - x ≤ 1 := by omega
    have Hx := Lib.hid hx
    have Hy := Lib.hid hy
    have Ha := Lib.hid hea
    have Hb := Lib.hid heb
    clear hx hy hea heb
    go_enter Try.func6, Try.ntmps6
    go_wp2_with fail
    refine (tax_at (x := x) (y := 0) (by omega) h Hx.out.symm Ha.out.symm).mono ?_
    rintro e w9 ⟨rfl, hb9⟩
    have hb := hb9
    clear hb9
    go_wp2_with fail
    refine (tax_at (x := y) (y := 0) (by omega) (h.below hb) Hy.out.symm Hb.out).mono ?_
    rintro e w9 ⟨rfl, hb9⟩
    replace hb := Below.on hb hb9
    clear hb9
    go_wp2_with fail
    refine (awake45 _).mono ?_
    rintro e w9 ⟨rfl, hb9⟩
    replace hb := Below.on hb hb9
    clear hb9
    go_wp2
    go_ret
    exact ⟨rfl, hb⟩
  · have hx0 : x = 0 := by rw [hx]; exact Tx.val_bad (by rw [← hea]; exact ha)
    subst hx0
    have Hx := Lib.hid hx
    have Ha := Lib.hid hea
    clear hx hea
    go_enter Try.func6, Try.ntmps6
    go_wp2_with fail
    refine (tax_at (x := 0) (y := ea) (by omega) h Hx.out.symm Ha.out.symm).mono ?_
    rintro e w9 ⟨rfl, hb9⟩
    have hb := hb9
    clear hb9
    go_wp2_with fail
    refine (awake45 _).mono ?_
    rintro e w9 ⟨rfl, hb9⟩
    replace hb := Below.on hb hb9
    clear hb9
    go_wp2
    go_ret
    exact ⟨rfl, hb⟩
end Go.Proofs.Ytjjilnipmoanlaa
