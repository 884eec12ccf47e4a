/- Several texts in one. -/
import Derived.Test.YtdcmpnjhomhhiaaGreatFrComb
import Derived.Deep.DeepCutAuto
/- The walks of frac.wide, frac.compare. -/
set_option linter.unusedVariables false
namespace Go.Proofs.YtdcmpnjhomhhiaaGreat
open Go.RowKit
namespace Fr
theorem Below.fresh_grown {w w' w2 : World} {g : Nat} (h : Below w.heap.size w w') (hg : w'.grownBy w2 (some g)) (hw : w.heap.size ≤ g) : Below w.heap.size w w2 :=
  h.grown hg h.size (fun k hk => by injection hk with hk; omega)
end Fr
end Go.Proofs.YtdcmpnjhomhhiaaGreat

/- The walks of frac.compare and frac.Cmp. -/
set_option linter.unusedVariables false
namespace Go.Proofs.YtdcmpnjhomhhiaaGreat
open Go.RowKit
namespace Fr
theorem fit32_mono {x n m : Nat} (h : Fit32 x n) (hm : n ≤ m) : Fit32 x m := Nat.lt_of_lt_of_le h (Nat.pow_le_pow_right (by omega) hm)
theorem fit32_mul {x y n m : Nat} (hx : Fit32 x n) (hy : Fit32 y m) : Fit32 (x * y) (n + m) := P32_fit hx hy
end Fr
end Go.Proofs.YtdcmpnjhomhhiaaGreat
