/- The walk of frac.Decimal. -/
import Derived.Test.YtiflmnmkmpjecaaFrRepeat
import Derived.Test.YtiflmnmkmpjecaaNatFormat
import Derived.Laws.Concat
set_option linter.unusedVariables false
namespace Go.Proofs.Ytiflmnmkmpjecaa
open Go.RowKit
namespace Fr
/-- The digits, with zeros ahead where they are too few. -/
def pad (q P : Nat) : ByteArray := if (Dc.text q).size ≤ P then zeros (P + 1 - (Dc.text q).size) ++ Dc.text q else Dc.text q
/-- A number of 10^P-th parts in decimal. -/
def dec (q P : Nat) : ByteArray := if P = 0 then Dc.text q else (pad q P).extract 0 ((pad q P).size - P) ++ ⟨#[46]⟩ ++ (pad q P).extract ((pad q P).size - P) (pad q P).size
theorem pow_bound (m : Nat) : 4294967296 ^ m ≤ 10 ^ (10 * m) := by
  rw [Nat.pow_mul]
  exact Nat.pow_le_pow_left (by omega) m
theorem text_le {q : Nat} (h : L32 q ≤ 64) : (Dc.text q).size ≤ 700 := by
  rw [Dc.text_size]
  split
  · omega
  · have : Dc.len q ≤ 10 * L32 q := Nt.len_le (by omega) (Nat.lt_of_lt_of_le (fit32_len q) (pow_bound (L32 q)))
    omega
end Fr
end Go.Proofs.Ytiflmnmkmpjecaa
