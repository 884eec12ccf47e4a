/- The walk of the reference's GCD. -/
import Derived.Test.YtdcmpnjhomhhiaaGreatG1
import Derived.Test.YtdcmpnjhomhhiaaGreatNatRHalf
import Derived.Test.YtdcmpnjhomhhiaaGreatNatRSum
import Derived.Deep.LoopGhost
set_option linter.unusedVariables false
namespace Go.Proofs.YtdcmpnjhomhhiaaGreat
open Go.RowKit

theorem d16_odd_even (x : Nat) : d16 x 0 % 2 = x % 2 := by
  unfold d16 Nt.dig
  rw [Nat.pow_zero, Nat.div_one]
  omega
theorem L16_pos {x : Nat} (h : 0 < x) : 0 < L16 x := by
  rcases Nat.eq_zero_or_pos (L16 x) with e | e
  · rw [L16_zero.1 e] at h; omega
  · exact e
theorem fit_sumV {x y B t e u : Nat} (hB : t ^ e = B) (ht : t = 2) (hx : x < B ^ u) (hy : y < B ^ u) : x + y < t ^ (e * u + 1) := by
  subst hB
  rw [← Nat.pow_mul] at hx hy
  rw [Nat.pow_succ]
  generalize t ^ (e * u) = P at *
  subst ht
  omega
/-- a number that is a sum of two, as a bound -/
def Sum2 (N : Nat) : Prop := N < 2 ^ (32 * 64 + 1)
theorem fit_sum {x y : Nat} (hx : L32 x ≤ 64) (hy : L32 y ≤ 64) : Sum2 (x + y) :=
  fit_sumV (B := 4294967296) (t := 2) (e := 32) (u := 64) (by decide) rfl (fit32_of hx) (fit32_of hy)
theorem Sum2.le {N M : Nat} (h : Sum2 N) (hle : M ≤ N) : Sum2 M := Nat.lt_of_le_of_lt hle h
theorem L16_sumV {x t B e u v : Nat} (hB : t ^ e = B) (h : x < t ^ v) (hv : v ≤ e * u) (hb : B = 65536) (ht : t = 2) : L16 x ≤ u := by
  refine fit16_le (Nat.lt_of_lt_of_le h ?_)
  rw [← hb, ← hB, ← Nat.pow_mul]
  exact Nat.pow_le_pow_right (by omega) hv
theorem L16_2049 {x : Nat} (h : Sum2 x) : L16 x ≤ 129 := L16_sumV (t := 2) (e := 16) (u := 129) (v := 32 * 64 + 1) (by decide) h (by decide) rfl rfl
theorem gst_2049 {a b x y t : Nat} (h : Gst a b x y t) (hab : Sum2 (a + b)) : t ≤ 2049 := gst_t (m := 32 * 64 + 1) h hab
theorem gcd_len {x y : Nat} (hx : L32 x ≤ 64) (hy : L32 y ≤ 64) : L32 (Nat.gcd x y) ≤ 64 := by
  rcases Nat.eq_zero_or_pos x with e | e
  · rw [e, Nat.gcd_zero_left]; exact hy
  · exact Nat.le_trans (Nt.len_mono (by omega) (Nat.le_of_dvd e (Nat.gcd_dvd_left x y))) hx

end Go.Proofs.YtdcmpnjhomhhiaaGreat
