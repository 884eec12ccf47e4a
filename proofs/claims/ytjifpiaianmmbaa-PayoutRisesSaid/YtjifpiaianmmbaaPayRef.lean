/- The walk of the reference's Pay. -/
import Derived.Test.YtjifpiaianmmbaaPayPay
set_option linter.unusedVariables false
namespace Go.Proofs.Ytjifpiaianmmbaa
open Go.RowKit

set_option maxHeartbeats 1000000 in
theorem refPay_good {B D : Option Addr} {n c m c2 : Nat} {F R : Nat → Int} {C : Nat → ByteArray} {K A : Nat → Int} {g t : Int} {w : World} (hn : n ≤ 9223372036854775807) (hm : m ≤ 9223372036854775807) (hB : Cells w B (n * 2) (Two F R)) (hD : Cells w D (m * 3) (Three C K A)) (hC : ∀ i, i < m → (C i).size ≤ maxLen)
    (hg : 0 ≤ g) (hg1 : g ≤ 1000000000000) (ht : Tx.val n F R g = t) (he : Tx.err n F R g = 0) (hk : Db.chk C K A m = 0) (ht0 : 0 ≤ t) (ht1 : t ≤ g) :
    Calls Try.prog 11 #[.slice B n c, .slice D m c2, .int .i64 g] w fun e w' => ∃ D' c', e = .returned (.tuple #[order g t D' m c' (Db.left A (g - t) m), .int .i64 0]) ∧ Cells w' D' (m * 1) (Ints (Db.get A (g - t))) ∧ Below w.heap.size w w' ∧ Fresh w.heap.size D' := by
  have hblk := Blk.new w 27 #[.int .i64 0, .int .i64 0, .slice none 0 0, .int .i64 0]
  have hb := (Below.refl w.heap.size w).alloc (Nat.le_refl _) (.cells #[.int .i64 0, .int .i64 0, .slice none 0 0, .int .i64 0] 27)
  have hct : Tx.chk n F R = 0 := by
    have h1 := Tx.err_ok he
    exact Tx.chk_yes (by omega) h1.2.1
  have HK := Lib.hid hk
  have HT := Lib.hid ht
  have HE := Lib.hid he
  have HCT := Lib.hid hct
  have HBw := Lib.hid hb
  have HKw := Lib.hid hblk
  clear hk ht he hb hblk hct
  go_enter Try.func11, Try.ntmps11
  go_wp2_with fail
  refine (refValid_yes _ _ hg hg1).mono ?_
  rintro e w0 ⟨rfl, rfl⟩
  go_wp2_with fail
  refine (refCheck_at hn (hB.below HBw.out) HCT.out).mono ?_
  rintro e wa ⟨rfl, hb1⟩
  have HBwa := Lib.hid (HBw.out.trans (hb1.mono HBw.out.size))
  have HKwa := Lib.hid (HKw.out.keep hb1)
  clear hb1 HBw HKw
  go_wp2_with fail
  refine (refDcheck_at hm (hD.below HBwa.out) hC HK.out).mono ?_
  rintro e wb ⟨rfl, hb1⟩
  have HBwb := Lib.hid (HBwa.out.trans (hb1.mono HBwa.out.size))
  have HKwb := Lib.hid (HKwa.out.keep hb1)
  clear hb1 HBwa HKwa
  go_wp2_with fail
  refine (refTax_at hn (hB.below HBwb.out) HT.out HE.out).mono ?_
  rintro e wc ⟨rfl, hb1⟩
  have HBwc := Lib.hid (HBwb.out.trans (hb1.mono HBwb.out.size))
  have HKwc := Lib.hid (HKwb.out.keep hb1)
  clear hb1 HBwb HKwb
  go_wp2_with fail
  refine (refOffset_fresh hm (hD.below HBwc.out) hC HK.out (by omega) (by omega)).mono ?_
  rintro e w2 ⟨D', c', rfl, hc, hb2, hfr⟩
  have HB2 := Lib.hid (HBwc.out.trans (hb2.mono HBwc.out.size))
  have HBK2 := Lib.hid (HKwc.out.keep hb2)
  obtain ⟨q0, q1, q2, q3, f0, f1, f2, f3⟩ := res_cells (w0 := w) HBK2.out
  have hsz : w.heap.size < w2.heap.size := HBK2.out.lt
  have HC := Lib.hid hc
  have HF := Lib.hid (hfr.mono (show w.heap.size + 1 ≤ wc.heap.size from HKwc.out.lt))
  clear hb2 hc HBwc HKwc hfr
  go_wp2
  refine bodyPost_ret (v := .tuple #[order g t D' m c' (Db.left A (g - t) m), .int .i64 0]) (by unfold order; simp [results, Try.results11, go_sem, q0, q1, q2, q3]) rfl ?_
  refine ⟨D', c', rfl, ?_, ?_, HF.out.mono (by omega)⟩
  · exact (((HC.out.set_ HF.out (Nat.lt_succ_self _) _ _).set_ HF.out (Nat.lt_succ_self _) _ _).set_ HF.out (Nat.lt_succ_self _) _ _).set_ HF.out (Nat.lt_succ_self _) _ _
  · exact (((HB2.out.setCell (p := ⟨w.heap.size, 0, none⟩) (Nat.le_refl _) _).setCell (p := ⟨w.heap.size, 1, none⟩) (Nat.le_refl _) _).setCell (p := ⟨w.heap.size, 2, none⟩) (Nat.le_refl _) _).setCell (p := ⟨w.heap.size, 3, none⟩) (Nat.le_refl _) _
end Go.Proofs.Ytjifpiaianmmbaa
