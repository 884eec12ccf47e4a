/- Natural numbers by their digits, second part: short division, multiples by one digit. -/
import Derived.Test.YteclghokkdkolaaNum
set_option linter.unusedVariables false
namespace Go.Proofs.Yteclghokkdkolaa
namespace Nt
/-! Short division, from the top: by one digit. -/
/-- The rest of what stands above digit j, divided by d. -/
theorem small_quo {b N d j : Nat} (hb : 0 < b) (hd : 0 < d) : dig b (N / d) j = (N / b ^ (j + 1) % d * b + dig b N j) / d := dig_quo hb hd
theorem small_rem {b N d j : Nat} (hb : 0 < b) (hd : 0 < d) : N / b ^ j % d = (N / b ^ (j + 1) % d * b + dig b N j) % d := win_mod hb hd
/-! Chains of a factor: a sum plus a product by one digit, and a difference. -/
/-- The digits of f * y, digit by digit: the carry into digit k. -/
def fcar (b f y k : Nat) : Nat := f * (y % b ^ k) / b ^ k
theorem fcar_zero (b f y : Nat) : fcar b f y 0 = 0 := by simp [fcar, Nat.mod_one]
theorem fmul_next (b f y k : Nat) : f * (y % b ^ (k + 1)) = f * (y % b ^ k) + b ^ k * (f * dig b y k) := by
  rw [mod_next, Nat.mul_add]
  congr 1
  rw [← Nat.mul_assoc, ← Nat.mul_assoc, Nat.mul_comm f]
theorem fcar_step {b : Nat} (hb : 0 < b) (f y k : Nat) : fcar b f y k + f * dig b y k = b * fcar b f y (k + 1) + dig b (f * y) k := by
  have h1 : fcar b f y (k + 1) = (fcar b f y k + f * dig b y k) / b := by
    unfold fcar; rw [fmul_next, chain_c hb]
  have h2 : dig b (f * y) k = (fcar b f y k + f * dig b y k) % b := by
    have h3 : f * y = f * (y % b ^ (k + 1)) + b ^ (k + 1) * (f * (y / b ^ (k + 1))) := by
      have := Nat.mod_add_div y (b ^ (k + 1))
      generalize y % b ^ (k + 1) = r at *
      generalize y / b ^ (k + 1) = q at *
      rw [← this, Nat.mul_add]
      congr 1
      rw [← Nat.mul_assoc, ← Nat.mul_assoc, Nat.mul_comm f]
    rw [h3, chain_lo hb _ _ (Nat.lt_succ_self k), fmul_next, chain_d hb]; rfl
  rw [h1, h2, Nat.div_add_mod]
theorem fcar_lt {b f : Nat} (hb : 0 < b) (hf : f < b) (y k : Nat) : fcar b f y k < b := by
  unfold fcar
  have h1 := Nat.mod_lt y (Nat.pow_pos (n := k) hb)
  refine (Nat.div_lt_iff_lt_mul (Nat.pow_pos hb)).2 ?_
  exact Nat.lt_of_le_of_lt (Nat.mul_le_mul_left _ (Nat.le_of_lt h1)) (Nat.mul_lt_mul_of_pos_right hf (Nat.pow_pos hb))
end Nt
end Go.Proofs.Yteclghokkdkolaa
