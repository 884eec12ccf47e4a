/- The walks of the laws DebtOffsets and DebtReduces. -/
import Derived.Test.YtjjilnipmoanlaaDebtForms
import Derived.Test.YtjjilnipmoanlaaDebtFacts
set_option linter.unusedVariables false
namespace Go.Proofs.Ytjjilnipmoanlaa
open Go.RowKit

set_option maxHeartbeats 1000000 in
theorem debtOffsets_walk (W : World) {D : Option Addr} {n c : Nat} {C : Nat → ByteArray} {R A : Nat → Int} (hn : n ≤ c) (hc : c ≤ maxLen) (h : Cells W D (n * 3) (Three C R A)) (hC : ∀ i, i < n → (C i).size ≤ maxLen) (hw : ∀ i, i < n → (Lit.int .i64 (R i)).wf = true ∧ (Lit.int .i64 (A i)).wf = true) (a : Int) (wa : (Lit.int .i64 a).wf = true) :
    Calls Try.prog 9 #[.slice D n c, .int .i64 a] W fun e w' => e = .returned (.bool true) ∧ Below W.heap.size W w' := by
  have hn9 : n ≤ 9223372036854775807 := by unfold maxLen at hc; omega
  clear hw
  clear wa
  by_cases h4 : 1000 < n
  · go_enter Try.func9, Try.ntmps9
    go_wp2_with fail
    refine (awake46 _).mono ?_
    rintro e w9 ⟨rfl, hb9⟩
    have hb := hb9
    clear hb9
    go_wp2
    go_ret
    exact ⟨rfl, hb⟩
  obtain ⟨ch, hch⟩ : ∃ ch, ch = Db.chk C R A n := ⟨_, rfl⟩
  have Hch := Lib.hid hch
  clear hch
  by_cases ho : Db.oerr C R A n a = 0
  · have Ho := Lib.hid ho
    clear ho
    go_enter Try.func9, Try.ntmps9
    go_wp2_with fail
    refine (offset_good hn9 h hC Ho.out).mono ?_
    rintro e w9 ⟨D1, c1, rfl, k1, hb9⟩
    have hb := hb9
    clear hb9
    go_wp2_with fail
    refine (refOffset_good hn9 (h.below hb) hC Ho.out).mono ?_
    rintro e w9 ⟨D2, c2, rfl, k2, hb9⟩
    replace k1 := k1.below hb9
    replace hb := Below.on hb hb9
    clear hb9
    go_wp2_with fail
    refine (dcheck_at hn9 (h.below hb) hC Hch.out.symm).mono ?_
    rintro e w9 ⟨rfl, hb9⟩
    replace k1 := k1.below hb9
    replace k2 := k2.below hb9
    replace hb := Below.on hb hb9
    clear hb9
    go_wp2_with fail
    refine (refDcheck_at hn9 (h.below hb) hC Hch.out.symm).mono ?_
    rintro e w9 ⟨rfl, hb9⟩
    replace k1 := k1.below hb9
    replace k2 := k2.below hb9
    replace hb := Below.on hb hb9
    clear hb9
    go_wp2_with fail
    refine (same_yes hn9 k1 k2).mono ?_
    rintro e w9 ⟨rfl, hb9⟩
    replace hb := Below.on hb hb9
    clear hb9
    go_wp2_with fail
    refine (awake46 _).mono ?_
    rintro e w9 ⟨rfl, hb9⟩
    replace hb := Below.on hb hb9
    clear hb9
    go_wp2
    go_ret
    exact ⟨rfl, hb⟩
  · obtain ⟨y, hy⟩ : ∃ y, y = Db.oerr C R A n a := ⟨_, rfl⟩
    rw [← hy] at ho
    have Hy := Lib.hid hy
    clear hy
    go_enter Try.func9, Try.ntmps9
    go_wp2_with fail
    refine (offset_bad hn9 h hC Hy.out.symm ho).mono ?_
    rintro e w9 ⟨rfl, hb9⟩
    have hb := hb9
    clear hb9
    go_wp2_with fail
    refine (refOffset_bad hn9 (h.below hb) hC Hy.out.symm ho).mono ?_
    rintro e w9 ⟨rfl, hb9⟩
    replace hb := Below.on hb hb9
    clear hb9
    go_wp2_with fail
    refine (dcheck_at hn9 (h.below hb) hC Hch.out.symm).mono ?_
    rintro e w9 ⟨rfl, hb9⟩
    replace hb := Below.on hb hb9
    clear hb9
    go_wp2_with fail
    refine (refDcheck_at hn9 (h.below hb) hC Hch.out.symm).mono ?_
    rintro e w9 ⟨rfl, hb9⟩
    replace hb := Below.on hb hb9
    clear hb9
    go_wp2_with fail
    refine (same_yes (n := 0) (G := fun _ => 0) (by omega) Cells.nil Cells.nil).mono ?_
    rintro e w9 ⟨rfl, hb9⟩
    replace hb := Below.on hb hb9
    clear hb9
    go_wp2_with fail
    refine (awake46 _).mono ?_
    rintro e w9 ⟨rfl, hb9⟩
    replace hb := Below.on hb hb9
    clear hb9
    go_wp2
    go_ret
    exact ⟨rfl, hb⟩

set_option maxHeartbeats 1000000 in
theorem debtReduces_walk (W : World) {D : Option Addr} {n c : Nat} {C : Nat → ByteArray} {R A : Nat → Int} (hn : n ≤ c) (hc : c ≤ maxLen) (h : Cells W D (n * 3) (Three C R A)) (hC : ∀ i, i < n → (C i).size ≤ maxLen) (hw : ∀ i, i < n → (Lit.int .i64 (R i)).wf = true ∧ (Lit.int .i64 (A i)).wf = true) {E : Option Addr} {m c2 : Nat} {P : Nat → Int} (hm : m ≤ c2) (hm2 : c2 ≤ maxLen) (hP : Cells W E (m * 1) (Ints P)) (hwP : ∀ i, i < m → (Lit.int .i64 (P i)).wf = true) :
    Calls Try.prog 10 #[.slice D n c, .slice E m c2] W fun e w' => e = .returned (.bool true) ∧ Below W.heap.size W w' := by
  have hn9 : n ≤ 9223372036854775807 := by unfold maxLen at hc; omega
  clear hw
  have hm9 : m ≤ 9223372036854775807 := by unfold maxLen at hm2; omega
  clear hwP
  by_cases h4 : 1000 < n
  · go_enter Try.func10, Try.ntmps10
    go_wp2_with fail
    refine (awake46 _).mono ?_
    rintro e w9 ⟨rfl, hb9⟩
    have hb := hb9
    clear hb9
    go_wp2
    go_ret
    exact ⟨rfl, hb⟩
  by_cases ho : Db.rerr C R A n P m = 0
  · obtain ⟨h1, he, h2⟩ := rerr_zero ho
    subst he
    obtain ⟨q, hq⟩ : ∃ q, Db.cnt A P m = q := ⟨_, rfl⟩
    have hqn : q ≤ m := by rw [← hq]; exact Db.cnt_le _ _ _
    have H1 := Lib.hid h1
    have H2 := Lib.hid h2
    have HM := Lib.hid hq
    clear ho h1 h2 hq
    go_enter Try.func10, Try.ntmps10
    go_wp2_with fail
    refine (reduce_good hn9 h hC hP H1.out H2.out HM.out).mono ?_
    rintro e w9 ⟨D1, c1, rfl, k1, hb9⟩
    have hb := hb9
    clear hb9
    go_wp2_with fail
    refine (refReduce_good hn9 (h.below hb) hC (hP.below hb) H1.out H2.out HM.out).mono ?_
    rintro e w9 ⟨D2, c3, rfl, k2, hb9⟩
    replace k1 := k1.below hb9
    replace hb := Below.on hb hb9
    clear hb9
    go_wp2_with fail
    refine (Same_yes (by omega) k1 k2).mono ?_
    rintro e w9 ⟨rfl, hb9⟩
    replace hb := Below.on hb hb9
    clear hb9
    go_wp2_with fail
    refine (awake46 _).mono ?_
    rintro e w9 ⟨rfl, hb9⟩
    replace hb := Below.on hb hb9
    clear hb9
    go_wp2
    go_ret
    exact ⟨rfl, hb⟩
  · obtain ⟨y, hy⟩ : ∃ y, y = Db.rerr C R A n P m := ⟨_, rfl⟩
    rw [← hy] at ho
    have Hy := Lib.hid hy
    clear hy
    go_enter Try.func10, Try.ntmps10
    go_wp2_with fail
    refine (reduce_bad hn9 hm9 h hC hP Hy.out.symm ho).mono ?_
    rintro e w9 ⟨rfl, hb9⟩
    have hb := hb9
    clear hb9
    go_wp2_with fail
    refine (refReduce_bad hn9 hm9 (h.below hb) hC (hP.below hb) Hy.out.symm ho).mono ?_
    rintro e w9 ⟨rfl, hb9⟩
    replace hb := Below.on hb hb9
    clear hb9
    go_wp2_with fail
    refine (Same_yes (n := 0) (C := C) (R := R) (A := A) (by omega) Cells.nil Cells.nil).mono ?_
    rintro e w9 ⟨rfl, hb9⟩
    replace hb := Below.on hb hb9
    clear hb9
    go_wp2_with fail
    refine (awake46 _).mono ?_
    rintro e w9 ⟨rfl, hb9⟩
    replace hb := Below.on hb hb9
    clear hb9
    go_wp2
    go_ret
    exact ⟨rfl, hb⟩
end Go.Proofs.Ytjjilnipmoanlaa
