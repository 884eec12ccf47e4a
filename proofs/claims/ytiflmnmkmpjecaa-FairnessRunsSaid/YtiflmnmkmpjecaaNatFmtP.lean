/- Plain facts of the decimal output by chunks of nine digits. No statement is proved here. -/
import Derived.Test.YtiflmnmkmpjecaaNatDecP
import Derived.Test.YtiflmnmkmpjecaaG1
set_option linter.unusedVariables false
namespace Go.Proofs.Ytiflmnmkmpjecaa
open Go.RowKit

/-- What is left behind t chunks of nine digits. -/
def q9 (x t : Nat) : Nat := x / 10 ^ (9 * t)
theorem q9_zero (x : Nat) : q9 x 0 = x := by unfold q9; rw [Nat.mul_zero, Nat.pow_zero, Nat.div_one]
theorem q9_next (x t : Nat) : q9 x t / 1000000000 = q9 x (t + 1) := by
  unfold q9
  rw [Nat.div_div_eq_div_mul, show 9 * (t + 1) = 9 * t + 9 by omega, Nat.pow_add]
def r9 (x t i : Nat) : Nat := q9 x t % 1000000000 / 10 ^ i
theorem r9_zero (x t : Nat) : r9 x t 0 = q9 x t % 1000000000 := by unfold r9; rw [Nat.pow_zero, Nat.div_one]
theorem r9_le (x t i : Nat) : r9 x t i ≤ 999999999 := by
  unfold r9
  have := Nat.mod_lt (q9 x t) (show 0 < 1000000000 by omega)
  exact Nat.le_trans (Nat.div_le_self _ _) (by omega)
theorem r9_next (x t i : Nat) : r9 x t i / 10 = r9 x t (i + 1) := by
  unfold r9
  rw [Nat.div_div_eq_div_mul, ← Nat.pow_succ]
theorem r9_dig (x t i : Nat) (h : i < 9) : r9 x t i % 10 = Dc.dg x (9 * t + i) := by
  unfold r9 q9 Dc.dg Nt.dig
  have hd : (1000000000 : Nat) = 10 ^ i * (10 * 10 ^ (8 - i)) := by
    rw [← Nat.pow_succ', ← Nat.pow_add, show i + (8 - i).succ = 9 by omega]
  rw [Nat.pow_add, ← Nat.div_div_eq_div_mul]
  generalize x / 10 ^ (9 * t) = T
  have hm := Nat.div_add_mod T 1000000000
  generalize T % 1000000000 = u at *
  generalize T / 1000000000 = K at *
  have e : T = u + 10 ^ i * (10 * (10 ^ (8 - i) * K)) := by
    rw [← hm, hd, Nat.mul_assoc, Nat.mul_assoc, Nat.add_comm]
  rw [e, Nat.add_mul_div_left _ _ (Nat.pow_pos (by omega)), Nat.add_mul_mod_self_left]
theorem q9_pos {x t : Nat} (h : 0 < q9 x t) (h64 : L32 x ≤ 64) : t ≤ 68 := by
  have h1 : 10 ^ (9 * t) ≤ x := by
    rcases Nat.lt_or_ge x (10 ^ (9 * t)) with h2 | h2
    · unfold q9 at h; rw [Nat.div_eq_of_lt h2] at h; omega
    · exact h2
  have h2 := Dc.len_le h64
  have h3 : 9 * t < Dc.len x := by
    rcases Nat.lt_or_ge (9 * t) (Dc.len x) with h4 | h4
    · exact h4
    · have h5 : x < 10 ^ Dc.len x := Nt.lt_pow_len (b := 10) (by omega) x
      have h6 := Nat.pow_le_pow_right (n := 10) (by omega) h4
      omega
  omega
theorem q9_end {x t : Nat} (h : q9 x t = 0) : x < 10 ^ (9 * t) := by
  rcases Nat.lt_or_ge x (10 ^ (9 * t)) with h2 | h2
  · exact h2
  · unfold q9 at h
    have := Nat.div_pos h2 (Nat.pow_pos (show 0 < 10 by omega))
    omega
/-- A decimal digit as a cell. -/
def Ch (x : Nat) : Nat → Value := fun j => .int .u8 (48 + (Dc.dg x j : Int))
theorem Ch_at (x j : Nat) : Ch x j = .int .u8 (48 + (Dc.dg x j : Int)) := rfl
/-- The cells while the first k digits are turned round: i from both ends are done. -/
def rcv (x k i : Nat) (F : Nat → Value) (t : Nat) : Value := if t < i then Ch x (k - 1 - t) else if t + i < k then Ch x t else if t < k then Ch x (k - 1 - t) else F t
theorem rcv_zero (x k : Nat) (F : Nat → Value) (hF : ∀ j, j < k → F j = Ch x j) (t : Nat) : rcv x k 0 F t = F t := by
  unfold rcv
  rw [if_neg (by omega)]
  by_cases h : t < k
  · rw [if_pos (by omega), hF t h]
  · rw [if_neg (by omega), if_neg h]
theorem rcv_mid {x k i : Nat} {F : Nat → Value} {t : Nat} (h1 : i ≤ t) (h2 : t + i < k) : rcv x k i F t = Ch x t := by
  unfold rcv; rw [if_neg (by omega), if_pos h2]
theorem rcv_next {x k i j : Nat} (F : Nat → Value) (hij : i + j + 1 = k) (hlt : i < j) (t : Nat) : rcv x k (i + 1) F t = if t = j then Ch x i else if t = i then Ch x j else rcv x k i F t := by
  unfold rcv
  by_cases e1 : t = j
  · subst e1
    rw [if_neg (by omega), if_neg (by omega), if_pos (by omega), if_pos rfl]
    congr 1; omega
  · rw [if_neg e1]
    by_cases e2 : t = i
    · subst e2
      rw [if_pos (by omega), if_pos rfl]
      congr 1; omega
    · rw [if_neg e2]
      by_cases h1 : t < i
      · rw [if_pos (by omega), if_pos h1]
      · rw [if_neg (show ¬ t < i + 1 by omega), if_neg h1]
        by_cases h2 : t + i < k
        · rw [if_pos (show t + (i + 1) < k by omega), if_pos h2]
        · rw [if_neg (show ¬ t + (i + 1) < k by omega), if_neg h2]
theorem rcv_end {x k i : Nat} {F : Nat → Value} (h : k ≤ 2 * i + 1) (hi : 2 * i ≤ k) {t : Nat} (ht : t < k) : rcv x k i F t = Ch x (k - 1 - t) := by
  unfold rcv
  by_cases h1 : t < i
  · rw [if_pos h1]
  · rw [if_neg h1]
    by_cases h2 : t + i < k
    · rw [if_pos h2]; congr 1; omega
    · rw [if_neg h2, if_pos ht]
theorem dig_down {x k : Nat} (h : x < 10 ^ k) (hk : 0 < k) (hd : Dc.dg x (k - 1) = 0) : x < 10 ^ (k - 1) := by
  obtain ⟨j, rfl⟩ : ∃ j, k = j + 1 := ⟨k - 1, by omega⟩
  rw [Nat.add_sub_cancel] at hd ⊢
  have h1 := Nt.mod_next 10 x j
  rw [Nat.mod_eq_of_lt h] at h1
  unfold Dc.dg at hd
  rw [hd, Nat.mul_zero, Nat.add_zero] at h1
  rw [h1]; exact Nat.mod_lt _ (Nat.pow_pos (by omega))
theorem len_of {x k : Nat} (hx : x ≠ 0) (h : x < 10 ^ k) (hk : 1 ≤ k) (hd : k = 1 ∨ Dc.dg x (k - 1) ≠ 0) : Dc.len x = k := by
  refine Nt.len_dig (by omega) h (.inr ?_)
  rcases hd with rfl | hd
  · show x / 10 ^ 0 % 10 ≠ 0
    rw [Nat.pow_zero, Nat.div_one]
    rw [Nat.pow_one] at h
    omega
  · exact hd
theorem text_bytes {x k i : Nat} (hx : x ≠ 0) (hl : Dc.len x = k) (hi : i < (Dc.text x).size) : ((Dc.text x)[i].toNat : Int) = 48 + (Dc.dg x (k - 1 - i) : Int) := by
  rw [Dc.sb_at hi]
  rw [Dc.text_size, if_neg hx] at hi
  rw [Dc.sb_text hx hi, hl]; omega
end Go.Proofs.Ytiflmnmkmpjecaa
