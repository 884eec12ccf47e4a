/- The walks of the steps and of frac.combined. -/
import Derived.Test.YtdcmpnjhomhhiaaGreatG6
import Derived.Test.YtdcmpnjhomhhiaaGreatNatSub
set_option linter.unusedVariables false
namespace Go.Proofs.YtdcmpnjhomhhiaaGreat
open Go.RowKit
namespace Fr
theorem boxes3 (w : World) (S T : Value) : Bs w (((w.alloc (.cells #[S] TN)).alloc (.cells #[T] TN)).alloc (.cells #[.slice none 0 0] TN))
    [(w.heap.size + 1 + 1, TN, #[.slice none 0 0]), (w.heap.size + 1, TN, #[T]), (w.heap.size, TN, #[S])] := by
  have := (((Bs.nil w).alloc TN #[S]).alloc TN #[T]).alloc TN #[.slice none 0 0]
  simp only [World.size_alloc] at this
  exact this
/-- A fraction, or an overflow. -/
def Out (B : Nat) (w' : World) (e : Ending) (fits : Prop) (a b : Nat) : Prop := (fits ∧ Res B w' e a b) ∨ (¬ fits ∧ Err e 9)
def fits_add (xn xd yn yd : Nat) : Prop := L32 (xn * yd) ≤ 64 ∧ L32 (yn * xd) ≤ 64 ∧ L32 (xd * yd) ≤ 64 ∧ L32 (xn * yd + yn * xd) ≤ 64
def fits_sub (xn xd yn yd : Nat) : Prop := L32 (xn * yd) ≤ 64 ∧ L32 (yn * xd) ≤ 64 ∧ L32 (xd * yd) ≤ 64
end Fr
end Go.Proofs.YtdcmpnjhomhhiaaGreat
