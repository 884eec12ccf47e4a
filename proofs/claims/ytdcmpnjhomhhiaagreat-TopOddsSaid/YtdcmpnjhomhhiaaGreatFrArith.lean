/- The walks of frac.Add, Sub, Mul, Div. -/
import Derived.Test.YtdcmpnjhomhhiaaGreatG7
set_option linter.unusedVariables false
namespace Go.Proofs.YtdcmpnjhomhhiaaGreat
open Go.RowKit
namespace Fr
theorem fok_pos {x y : Nat} (h : fok x y = true) : 0 < y := by
  unfold fok at h
  simp only [Bool.and_eq_true, decide_eq_true_eq] at h
  exact h.1
def fits_mul (xn xd yn yd : Nat) : Prop := L32 (xn * yn) ≤ 64 ∧ L32 (xd * yd) ≤ 64
def fits_div (xn xd yn yd : Nat) : Prop := L32 (xn * yd) ≤ 64 ∧ L32 (xd * yn) ≤ 64
end Fr
end Go.Proofs.YtdcmpnjhomhhiaaGreat
