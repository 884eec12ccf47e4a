/- Plain facts of the greatest common divisor, by halves and differences. -/
import Derived.Test.YteclghokkdkolaaNatBase
set_option linter.unusedVariables false
namespace Go.Proofs.Yteclghokkdkolaa

theorem gcd_both {x y : Nat} (hx : x % 2 = 0) (hy : y % 2 = 0) : Nat.gcd x y = 2 * Nat.gcd (x / 2) (y / 2) := by
  rw [← Nat.gcd_mul_left, show 2 * (x / 2) = x by omega, show 2 * (y / 2) = y by omega]
theorem gcd_left {x y : Nat} (hx : x % 2 = 0) (hy : y % 2 ≠ 0) : Nat.gcd x y = Nat.gcd (x / 2) y := by
  have hc : Nat.Coprime 2 y := by
    show Nat.gcd 2 y = 1
    rw [Nat.gcd_rec, show y % 2 = 1 by omega]; rfl
  have h := Nat.Coprime.gcd_mul_left_cancel (x / 2) hc
  rw [show 2 * (x / 2) = x by omega] at h
  exact h
theorem gcd_right {x y : Nat} (hx : x % 2 ≠ 0) (hy : y % 2 = 0) : Nat.gcd x y = Nat.gcd x (y / 2) := by
  rw [Nat.gcd_comm, gcd_left hy hx, Nat.gcd_comm]
theorem gcd_less {x y : Nat} (h : y ≤ x) : Nat.gcd (x - y) y = Nat.gcd x y := by
  conv => rhs; rw [show x = (x - y) + y by omega, Nat.gcd_add_self_left]
theorem gcd_less' {x y : Nat} (h : x ≤ y) : Nat.gcd x (y - x) = Nat.gcd x y := by
  rw [Nat.gcd_comm, gcd_less h, Nat.gcd_comm]

/-- The state of the halving: what is left of both numbers, and how often both were halved. -/
def Gst (a b x y t : Nat) : Prop := Nat.gcd a b = 2 ^ t * Nat.gcd x y ∧ (x + y) * 2 ^ t ≤ a + b ∧ (t = 0 ∨ 2 ^ t ≤ a + b)
theorem gst_start (a b : Nat) : Gst a b a b 0 := ⟨by simp, by simp, .inl rfl⟩
theorem gst_le {a b x y t : Nat} (h : Gst a b x y t) : x + y ≤ a + b :=
  Nat.le_trans (Nat.le_mul_of_pos_right _ (Nat.pow_pos (by omega))) h.2.1
theorem gst_sub {a b x y x' y' t : Nat} (h : Gst a b x y t) (hg : Nat.gcd x y = Nat.gcd x' y') (hl : x' + y' ≤ x + y) : Gst a b x' y' t :=
  ⟨hg ▸ h.1, Nat.le_trans (Nat.mul_le_mul_right _ hl) h.2.1, h.2.2⟩
theorem gst_both {a b x y t : Nat} (h : Gst a b x y t) (hx0 : 0 < x) (hx : x % 2 = 0) (hy : y % 2 = 0) : Gst a b (x / 2) (y / 2) (t + 1) := by
  have e : (x / 2 + y / 2) * 2 ^ (t + 1) = (x + y) * 2 ^ t := by
    rw [Nat.pow_succ, Nat.mul_comm (2 ^ t) 2, ← Nat.mul_assoc, show (x / 2 + y / 2) * 2 = x + y by omega]
  refine ⟨?_, ?_, .inr ?_⟩
  · rw [h.1, gcd_both hx hy, Nat.pow_succ, Nat.mul_assoc]
  · rw [e]; exact h.2.1
  · refine Nat.le_trans ?_ (Nat.le_trans (Nat.le_of_eq e) h.2.1)
    exact Nat.le_mul_of_pos_left _ (by omega)
theorem gst_end {a b x y t : Nat} (h : Gst a b x y t) (h0 : x = 0 ∨ y = 0) : (x + y) * 2 ^ t = Nat.gcd a b := by
  rw [h.1, Nat.mul_comm]
  congr 1
  rcases h0 with rfl | rfl
  · rw [Nat.gcd_zero_left, Nat.zero_add]
  · rw [Nat.gcd_zero_right, Nat.add_zero]
theorem gst_t {a b x y t m : Nat} (h : Gst a b x y t) (hab : a + b < 2 ^ m) : t ≤ m := by
  rcases h.2.2 with rfl | h2
  · omega
  · exact Nat.le_of_lt ((Nat.pow_lt_pow_iff_right (by omega : 1 < 2)).1 (Nat.lt_of_le_of_lt h2 hab))
end Go.Proofs.Yteclghokkdkolaa
