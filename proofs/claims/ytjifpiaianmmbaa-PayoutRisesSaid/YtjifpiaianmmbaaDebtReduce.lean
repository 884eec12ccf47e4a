/- The walks of debt.Reduce and of its reference. -/
import Derived.Test.YtjifpiaianmmbaaDebtOffset
import Derived.StillTailTactics
set_option linter.unusedVariables false
namespace Go.Proofs.Ytjifpiaianmmbaa
open Go.RowKit

theorem Try.infoDebt : (Try.prog.info? 40).map (fun i => (i.zero, i.size, i.bytes)) = some (some (.agg #[.string ByteArray.empty, .int .i64 0, .int .i64 0]), 3, 32) := by kernel_rfl

/-- The debts that are left behind the first k payments. -/
def Rest (C : Nat → ByteArray) (R A P : Nat → Int) (k : Nat) : Nat → Value :=
  Three (fun j => C (Db.sel A P k j)) (fun j => R (Db.sel A P k j)) (fun j => A (Db.sel A P k j) - P (Db.sel A P k j))
def restRow (C : Nat → ByteArray) (R A P : Nat → Int) (k : Nat) : List Value := row (Db.cnt A P k * 3) (Rest C R A P k)
theorem restRow_yes {C : Nat → ByteArray} {R A P : Nat → Int} {k : Nat} (h : P k < A k) :
    restRow C R A P (k + 1) = restRow C R A P k ++ [.string (C k), .int .i64 (R k), .int .i64 (A k - P k)] := by
  unfold restRow
  rw [Db.cnt_yes h, show (Db.cnt A P k + 1) * 3 = Db.cnt A P k * 3 + 3 by omega, row_three]
  unfold Rest
  rw [Three_at0, Three_at1, Three_at2, Db.sel_new h]
  congr 1
  refine row_congr fun j hj => ?_
  unfold Three
  simp only [Db.sel_old (show j / 3 < Db.cnt A P k by omega)]
theorem restRow_no {C : Nat → ByteArray} {R A P : Nat → Int} {k : Nat} (h : ¬ P k < A k) : restRow C R A P (k + 1) = restRow C R A P k := by
  unfold restRow Rest
  rw [Db.cnt_no h]
  simp only [Db.sel_no h]

end Go.Proofs.Ytjifpiaianmmbaa
