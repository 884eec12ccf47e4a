/- Pay and its reference where they return an error. -/
import Derived.Test.YtjifpiaianmmbaaPayRef
set_option linter.unusedVariables false
namespace Go.Proofs.Ytjifpiaianmmbaa
open Go.RowKit

set_option maxHeartbeats 1000000 in
theorem pay_bad {B D : Option Addr} {n c m c2 : Nat} {F R : Nat → Int} {C : Nat → ByteArray} {K A : Nat → Int} {g y : Int} {w : World} (hn : n ≤ 9223372036854775807) (hm : m ≤ 9223372036854775807) (hB : Cells w B (n * 2) (Two F R)) (hD : Cells w D (m * 3) (Three C K A)) (hC : ∀ i, i < m → (C i).size ≤ maxLen)
    (hy : perr n F R m C K A g = y) (h0 : y ≠ 0) :
    Calls Try.prog 10 #[.slice B n c, .slice D m c2, .int .i64 g] w fun e w' => e = .returned (.tuple #[order 0 0 none 0 0 0, .int .i64 y]) ∧ Below w.heap.size w w' := by
  have hblk := Blk.new w 27 #[.int .i64 0, .int .i64 0, .slice none 0 0, .int .i64 0]
  have hb := (Below.refl w.heap.size w).alloc (Nat.le_refl _) (.cells #[.int .i64 0, .int .i64 0, .slice none 0 0, .int .i64 0] 27)
  have HBw := Lib.hid hb
  have HKw := Lib.hid hblk
  clear hb hblk
  by_cases hg : g < 0 ∨ 1000000000000 < g
  · have hy2 : y = 2 := by rw [← hy]; unfold perr; rw [if_neg (by omega)]
    subst hy2
    have Hg := Lib.hid hg
    clear hg hy
    go_enter Try.func10, Try.ntmps10
    go_wp2_with fail
    refine (valid_no _ _ Hg.out).mono ?_
    rintro e w0 ⟨rfl, rfl⟩
    go_wp2
    refine bodyPost_ret (v := .tuple #[order 0 0 none 0 0 0, .int .i64 2]) (by unfold order; simp [results, Try.results10, go_sem]) rfl ?_
    exact ⟨rfl, HBw.out⟩
  have g0 : 0 ≤ g := by omega
  have g1 : g ≤ 1000000000000 := by omega
  clear hg
  unfold perr at hy
  rw [if_pos ⟨g0, g1⟩] at hy
  by_cases hct : Tx.chk n F R = 0
  · rw [if_pos hct] at hy
    have he := Tx.err_of (n := n) (F := F) (R := R) hct g0 g1
    obtain ⟨t, ht⟩ : ∃ t, Tx.val n F R g = t := ⟨_, rfl⟩
    have hbd := Tx.bounds_of he
    rw [ht] at hbd
    obtain ⟨t0, t1, _⟩ := hbd
    have Hy := Lib.hid hy
    have HCT := Lib.hid hct
    have HE := Lib.hid he
    have HT := Lib.hid ht
    clear hy hct he ht
    go_enter Try.func10, Try.ntmps10
    go_wp2_with fail
    refine (valid_yes _ _ g0 g1).mono ?_
    rintro e w0 ⟨rfl, rfl⟩
    go_wp2_with fail
    refine (tax_at hn (hB.below HBw.out) HT.out HE.out).mono ?_
    rintro e wa ⟨rfl, hb1⟩
    have HBwa := Lib.hid (HBw.out.trans (hb1.mono HBw.out.size))
    have HKwa := Lib.hid (HKw.out.keep hb1)
    clear hb1 HBw HKw
    go_wp2_with fail
    refine (offset_err hm (hD.below HBwa.out) hC Hy.out h0).mono ?_
    rintro e wb ⟨rfl, hb1⟩
    have HBwb := Lib.hid (HBwa.out.trans (hb1.mono HBwa.out.size))
    have HKwb := Lib.hid (HKwa.out.keep hb1)
    clear hb1 HBwa HKwa
    obtain ⟨q0, q1, q2, q3, f0, f1, f2, f3⟩ := res_cells (w0 := w) HKwb.out
    have hsz : w.heap.size < wb.heap.size := HKwb.out.lt
    go_wp2
    refine bodyPost_ret (v := .tuple #[order 0 0 none 0 0 0, .int .i64 y]) (by unfold order; simp [results, Try.results10, go_sem, q0, q1, q2, q3]) rfl ?_
    exact ⟨rfl, (((HBwb.out.setCell (p := ⟨w.heap.size, 0, none⟩) (Nat.le_refl _) _).setCell (p := ⟨w.heap.size, 1, none⟩) (Nat.le_refl _) _).setCell (p := ⟨w.heap.size, 2, none⟩) (Nat.le_refl _) _).setCell (p := ⟨w.heap.size, 3, none⟩) (Nat.le_refl _) _⟩
  · rw [if_neg hct] at hy
    obtain ⟨he, ht⟩ := Tx.err_chk (a := g) hct
    rw [hy] at he
    have Hy := Lib.hid hy
    have HE := Lib.hid he
    have HT := Lib.hid ht
    clear hy hct he ht
    go_enter Try.func10, Try.ntmps10
    go_wp2_with fail
    refine (valid_yes _ _ g0 g1).mono ?_
    rintro e w0 ⟨rfl, rfl⟩
    go_wp2_with fail
    refine (tax_at hn (hB.below HBw.out) HT.out HE.out).mono ?_
    rintro e wa ⟨rfl, hb1⟩
    have HBwa := Lib.hid (HBw.out.trans (hb1.mono HBw.out.size))
    have HKwa := Lib.hid (HKw.out.keep hb1)
    clear hb1 HBw HKw
    obtain ⟨q0, q1, q2, q3, f0, f1, f2, f3⟩ := res_cells (w0 := w) HKwa.out
    have hsz : w.heap.size < wa.heap.size := HKwa.out.lt
    go_wp2
    refine bodyPost_ret (v := .tuple #[order 0 0 none 0 0 0, .int .i64 y]) (by unfold order; simp [results, Try.results10, go_sem, q0, q1, q2, q3]) rfl ?_
    exact ⟨rfl, (((HBwa.out.setCell (p := ⟨w.heap.size, 0, none⟩) (Nat.le_refl _) _).setCell (p := ⟨w.heap.size, 1, none⟩) (Nat.le_refl _) _).setCell (p := ⟨w.heap.size, 2, none⟩) (Nat.le_refl _) _).setCell (p := ⟨w.heap.size, 3, none⟩) (Nat.le_refl _) _⟩
set_option maxHeartbeats 1000000 in
theorem refPay_bad {B D : Option Addr} {n c m c2 : Nat} {F R : Nat → Int} {C : Nat → ByteArray} {K A : Nat → Int} {g y : Int} {w : World} (hn : n ≤ 9223372036854775807) (hm : m ≤ 9223372036854775807) (hB : Cells w B (n * 2) (Two F R)) (hD : Cells w D (m * 3) (Three C K A)) (hC : ∀ i, i < m → (C i).size ≤ maxLen)
    (hy : perr n F R m C K A g = y) (h0 : y ≠ 0) :
    Calls Try.prog 11 #[.slice B n c, .slice D m c2, .int .i64 g] w fun e w' => e = .returned (.tuple #[order 0 0 none 0 0 0, .int .i64 y]) ∧ Below w.heap.size w w' := by
  have hblk := Blk.new w 27 #[.int .i64 0, .int .i64 0, .slice none 0 0, .int .i64 0]
  have hb := (Below.refl w.heap.size w).alloc (Nat.le_refl _) (.cells #[.int .i64 0, .int .i64 0, .slice none 0 0, .int .i64 0] 27)
  have HBw := Lib.hid hb
  have HKw := Lib.hid hblk
  clear hb hblk
  by_cases hg : g < 0 ∨ 1000000000000 < g
  · have hy2 : y = 2 := by rw [← hy]; unfold perr; rw [if_neg (by omega)]
    subst hy2
    have Hg := Lib.hid hg
    clear hg hy
    go_enter Try.func11, Try.ntmps11
    go_wp2_with fail
    refine (refValid_no _ _ Hg.out).mono ?_
    rintro e w0 ⟨rfl, rfl⟩
    go_wp2
    refine bodyPost_ret (v := .tuple #[order 0 0 none 0 0 0, .int .i64 2]) (by unfold order; simp [results, Try.results11, go_sem]) rfl ?_
    exact ⟨rfl, HBw.out⟩
  have g0 : 0 ≤ g := by omega
  have g1 : g ≤ 1000000000000 := by omega
  clear hg
  unfold perr at hy
  rw [if_pos ⟨g0, g1⟩] at hy
  by_cases hct : Tx.chk n F R = 0
  · rw [if_pos hct] at hy
    have he := Tx.err_of (n := n) (F := F) (R := R) hct g0 g1
    obtain ⟨t, ht⟩ : ∃ t, Tx.val n F R g = t := ⟨_, rfl⟩
    have hbd := Tx.bounds_of he
    rw [ht] at hbd
    obtain ⟨t0, t1, _⟩ := hbd
    have Hy := Lib.hid hy
    have HCT := Lib.hid hct
    have HE := Lib.hid he
    have HT := Lib.hid ht
    clear hy hct he ht
    go_enter Try.func11, Try.ntmps11
    go_wp2_with fail
    refine (refValid_yes _ _ g0 g1).mono ?_
    rintro e w0 ⟨rfl, rfl⟩
    go_wp2_with fail
    refine (refCheck_at hn (hB.below HBw.out) HCT.out).mono ?_
    rintro e wa ⟨rfl, hb1⟩
    have HBwa := Lib.hid (HBw.out.trans (hb1.mono HBw.out.size))
    have HKwa := Lib.hid (HKw.out.keep hb1)
    clear hb1 HBw HKw
    go_wp2_with fail
    refine (refDcheck_at hm (hD.below HBwa.out) hC Hy.out).mono ?_
    rintro e wb ⟨rfl, hb1⟩
    have HBwb := Lib.hid (HBwa.out.trans (hb1.mono HBwa.out.size))
    have HKwb := Lib.hid (HKwa.out.keep hb1)
    clear hb1 HBwa HKwa
    obtain ⟨q0, q1, q2, q3, f0, f1, f2, f3⟩ := res_cells (w0 := w) HKwb.out
    have hsz : w.heap.size < wb.heap.size := HKwb.out.lt
    go_wp2
    refine bodyPost_ret (v := .tuple #[order 0 0 none 0 0 0, .int .i64 y]) (by unfold order; simp [results, Try.results11, go_sem, q0, q1, q2, q3]) rfl ?_
    exact ⟨rfl, (((HBwb.out.setCell (p := ⟨w.heap.size, 0, none⟩) (Nat.le_refl _) _).setCell (p := ⟨w.heap.size, 1, none⟩) (Nat.le_refl _) _).setCell (p := ⟨w.heap.size, 2, none⟩) (Nat.le_refl _) _).setCell (p := ⟨w.heap.size, 3, none⟩) (Nat.le_refl _) _⟩
  · rw [if_neg hct] at hy
    obtain ⟨he, ht⟩ := Tx.err_chk (a := g) hct
    rw [hy] at he
    have Hy := Lib.hid hy
    have HE := Lib.hid he
    have HT := Lib.hid ht
    clear hy hct he ht
    go_enter Try.func11, Try.ntmps11
    go_wp2_with fail
    refine (refValid_yes _ _ g0 g1).mono ?_
    rintro e w0 ⟨rfl, rfl⟩
    go_wp2_with fail
    refine (refCheck_at hn (hB.below HBw.out) Hy.out).mono ?_
    rintro e wa ⟨rfl, hb1⟩
    have HBwa := Lib.hid (HBw.out.trans (hb1.mono HBw.out.size))
    have HKwa := Lib.hid (HKw.out.keep hb1)
    clear hb1 HBw HKw
    obtain ⟨q0, q1, q2, q3, f0, f1, f2, f3⟩ := res_cells (w0 := w) HKwa.out
    have hsz : w.heap.size < wa.heap.size := HKwa.out.lt
    go_wp2
    refine bodyPost_ret (v := .tuple #[order 0 0 none 0 0 0, .int .i64 y]) (by unfold order; simp [results, Try.results11, go_sem, q0, q1, q2, q3]) rfl ?_
    exact ⟨rfl, (((HBwa.out.setCell (p := ⟨w.heap.size, 0, none⟩) (Nat.le_refl _) _).setCell (p := ⟨w.heap.size, 1, none⟩) (Nat.le_refl _) _).setCell (p := ⟨w.heap.size, 2, none⟩) (Nat.le_refl _) _).setCell (p := ⟨w.heap.size, 3, none⟩) (Nat.le_refl _) _⟩
end Go.Proofs.Ytjifpiaianmmbaa
