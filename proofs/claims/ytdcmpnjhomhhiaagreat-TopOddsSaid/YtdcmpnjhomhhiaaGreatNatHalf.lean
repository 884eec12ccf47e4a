/- The walks of the reference's Halves and Whole: limbs as digits of 16 bits, and back. -/
import Derived.Test.YtdcmpnjhomhhiaaGreatG1
import Derived.Test.YtdcmpnjhomhhiaaGreatG2
set_option linter.unusedVariables false
namespace Go.Proofs.YtdcmpnjhomhhiaaGreat
open Go.RowKit

theorem half_pow (k : Nat) : (65536 : Nat) ^ (2 * k) = 4294967296 ^ k := by rw [Nat.pow_mul]
theorem d16_even (N k : Nat) : d16 N (2 * k) = d32 N k % 65536 := by
  unfold d16 d32 Nt.dig
  rw [half_pow, Nat.mod_mod_of_dvd _ ⟨65536, by omega⟩]
theorem d16_odd (N k : Nat) : d16 N (2 * k + 1) = d32 N k / 65536 := by
  unfold d16 d32 Nt.dig
  rw [Nat.pow_succ, half_pow, ← Nat.div_div_eq_div_mul]
  generalize N / 4294967296 ^ k = q
  omega
theorem d32_half (N k : Nat) : d32 N k = d16 N (2 * k) + 65536 * d16 N (2 * k + 1) := by
  rw [d16_even, d16_odd]; omega
theorem fit_half {N n : Nat} : Fit32 N n ↔ Fit16 N (2 * n) := by
  unfold Fit16 Fit32; rw [half_pow]
theorem L32_half (N : Nat) : L32 N = (L16 N + 1) / 2 := by
  have h1 : L32 N ≤ (L16 N + 1) / 2 := fit32_le (fit_half.2 (fit16_of (by omega)))
  have h2 : L16 N ≤ 2 * L32 N := fit16_le (fit_half.1 (fit32_len N))
  omega

end Go.Proofs.YtdcmpnjhomhhiaaGreat
