/- The walks of payout.Pay and of its reference. -/
import Derived.Test.YtjifpiaianmmbaaDebtForms
import Derived.Test.YtjifpiaianmmbaaDebtFacts
import Derived.Test.YtjifpiaianmmbaaTaxAwake
set_option linter.unusedVariables false
namespace Go.Proofs.Ytjifpiaianmmbaa
open Go.RowKit

/-- An order as a value. -/
def order (g t : Int) (D : Option Addr) (n c : Nat) (l : Int) : Value := .agg #[.int .i64 g, .int .i64 t, .slice D n c, .int .i64 l]
/-- The error of Pay. -/
def perr (n : Nat) (F R : Nat → Int) (m : Nat) (C : Nat → ByteArray) (K A : Nat → Int) (g : Int) : Int :=
  if 0 ≤ g ∧ g ≤ 1000000000000 then (if Tx.chk n F R = 0 then Db.chk C K A m else Tx.chk n F R) else 2

/-- The block of a struct result, behind a call. -/
theorem res_cells {w0 w1 : World} {b : Nat} {t : TypeId} {a0 a1 a2 a3 : Value} (h : Blk w1 b t #[a0, a1, a2, a3]) :
    w1.cell? ⟨b, 0, none⟩ = some a0 ∧ w1.cell? ⟨b, 1, none⟩ = some a1 ∧ w1.cell? ⟨b, 2, none⟩ = some a2 ∧ w1.cell? ⟨b, 3, none⟩ = some a3 ∧
    w1.frozen? ⟨b, 0, none⟩ = false ∧ w1.frozen? ⟨b, 1, none⟩ = false ∧ w1.frozen? ⟨b, 2, none⟩ = false ∧ w1.frozen? ⟨b, 3, none⟩ = false :=
  ⟨h.cell 0, h.cell 1, h.cell 2, h.cell 3, h.frozen 0, h.frozen 1, h.frozen 2, h.frozen 3⟩

set_option maxHeartbeats 1000000 in
theorem pay_good {B D : Option Addr} {n c m c2 : Nat} {F R : Nat → Int} {C : Nat → ByteArray} {K A : Nat → Int} {g t : Int} {w : World} (hn : n ≤ 9223372036854775807) (hm : m ≤ 9223372036854775807) (hB : Cells w B (n * 2) (Two F R)) (hD : Cells w D (m * 3) (Three C K A)) (hC : ∀ i, i < m → (C i).size ≤ maxLen)
    (hg : 0 ≤ g) (hg1 : g ≤ 1000000000000) (ht : Tx.val n F R g = t) (he : Tx.err n F R g = 0) (hk : Db.chk C K A m = 0) (ht0 : 0 ≤ t) (ht1 : t ≤ g) :
    Calls Try.prog 10 #[.slice B n c, .slice D m c2, .int .i64 g] w fun e w' => ∃ D' c', e = .returned (.tuple #[order g t D' m c' (Db.left A (g - t) m), .int .i64 0]) ∧ Cells w' D' (m * 1) (Ints (Db.get A (g - t))) ∧ Below w.heap.size w w' ∧ Fresh w.heap.size D' := by
  have hblk := Blk.new w 27 #[.int .i64 0, .int .i64 0, .slice none 0 0, .int .i64 0]
  have hb := (Below.refl w.heap.size w).alloc (Nat.le_refl _) (.cells #[.int .i64 0, .int .i64 0, .slice none 0 0, .int .i64 0] 27)
  have hct : Tx.chk n F R = 0 := by
    have h1 := Tx.err_ok he
    exact Tx.chk_yes (by omega) h1.2.1
  have HK := Lib.hid hk
  have HT := Lib.hid ht
  have HE := Lib.hid he
  have HCT := Lib.hid hct
  have HB0 := Lib.hid hb
  have HBK := Lib.hid hblk
  clear hk ht he hb hblk hct
  go_enter Try.func10, Try.ntmps10
  go_wp2_with fail
  refine (valid_yes _ _ hg hg1).mono ?_
  rintro e w0 ⟨rfl, rfl⟩
  go_wp2_with fail
  refine (tax_at hn (hB.below HB0.out) HT.out HE.out).mono ?_
  rintro e w1 ⟨rfl, hb1⟩
  have HB1 := Lib.hid (HB0.out.trans (hb1.mono HB0.out.size))
  have HBK1 := Lib.hid (HBK.out.keep hb1)
  clear hb1 HBK HB0
  go_wp2_with fail
  refine (offset_fresh hm (hD.below HB1.out) hC HK.out (by omega) (by omega)).mono ?_
  rintro e w2 ⟨D', c', rfl, hc, hb2, hfr⟩
  have HB2 := Lib.hid (HB1.out.trans (hb2.mono HB1.out.size))
  have HBK2 := Lib.hid (HBK1.out.keep hb2)
  obtain ⟨q0, q1, q2, q3, f0, f1, f2, f3⟩ := res_cells (w0 := w) HBK2.out
  have hsz : w.heap.size < w2.heap.size := HBK2.out.lt
  have HC := Lib.hid hc
  have HF := Lib.hid (hfr.mono (show w.heap.size + 1 ≤ w1.heap.size from HBK1.out.lt))
  clear hb2 hc HB1 HBK1 hfr
  go_wp2
  refine bodyPost_ret (v := .tuple #[order g t D' m c' (Db.left A (g - t) m), .int .i64 0]) (by unfold order; simp [results, Try.results10, go_sem, q0, q1, q2, q3]) rfl ?_
  refine ⟨D', c', rfl, ?_, ?_, HF.out.mono (by omega)⟩
  · exact (((HC.out.set_ HF.out (Nat.lt_succ_self _) _ _).set_ HF.out (Nat.lt_succ_self _) _ _).set_ HF.out (Nat.lt_succ_self _) _ _).set_ HF.out (Nat.lt_succ_self _) _ _
  · exact (((HB2.out.setCell (p := ⟨w.heap.size, 0, none⟩) (Nat.le_refl _) _).setCell (p := ⟨w.heap.size, 1, none⟩) (Nat.le_refl _) _).setCell (p := ⟨w.heap.size, 2, none⟩) (Nat.le_refl _) _).setCell (p := ⟨w.heap.size, 3, none⟩) (Nat.le_refl _) _
theorem refTax_at {A : Option Addr} {n c : Nat} {F R : Nat → Int} {a x y : Int} {w : World} (hn : n ≤ 9223372036854775807) (h : Cells w A (n * 2) (Two F R)) (hx : Tx.val n F R a = x) (hy : Tx.err n F R a = y) :
    Calls Try.prog 22 #[.slice A n c, .int .i64 a] w fun e w' => e = .returned (.tuple #[.int .i64 x, .int .i64 y]) ∧ Below w.heap.size w w' := by
  subst hx hy; exact refTax_any A n c F R a w hn h
theorem refCheck_at {A : Option Addr} {n c : Nat} {F R : Nat → Int} {y : Int} {w : World} (hn : n ≤ 9223372036854775807) (h : Cells w A (n * 2) (Two F R)) (hy : Tx.chk n F R = y) :
    Calls Try.prog 20 #[.slice A n c] w fun e w' => e = .returned (.int .i64 y) ∧ Below w.heap.size w w' := by
  subst hy; exact refCheck_any A n c F R w hn h
end Go.Proofs.Ytjifpiaianmmbaa
