/- The walks of nat.Uint and of its reference. -/
import Derived.Test.YteclghokkdkolaaNatOf
set_option linter.unusedVariables false
namespace Go.Proofs.Yteclghokkdkolaa
open Go.RowKit

theorem or_two (a b : Nat) (ha : a < 4294967296) (hb : b < 4294967296) : bits .or .u64 (a : Int) ((b : Int) * 4294967296) = ((a + b * 4294967296 : Nat) : Int) := by
  have h := Go.bits_or_u64_nat a (b * 4294967296) (by omega) (by omega)
  have h2 := Nat.two_pow_add_eq_or_of_lt (i := 32) (b := a) (by omega) b
  rw [show (2 : Nat) ^ 32 = 4294967296 by rfl] at h2
  rw [show ((b : Int) * 4294967296) = ((b * 4294967296 : Nat) : Int) by omega, h, Nat.or_comm, Nat.mul_comm, ← h2]
  omega

theorem or_zero (a : Nat) (ha : a < 4294967296) : bits .or .u64 0 (a : Int) = (a : Int) := by
  have h := Go.bits_or_u64_nat 0 a (by omega) (by omega)
  rw [Nat.zero_or] at h
  exact h
theorem ret_uintb {a b : Int} {t : Bool} (h : a = b) : Ending.returned (.tuple #[.int .u64 a, .bool t]) = .returned (.tuple #[.int .u64 b, .bool t]) := by rw [h]

end Go.Proofs.Yteclghokkdkolaa
