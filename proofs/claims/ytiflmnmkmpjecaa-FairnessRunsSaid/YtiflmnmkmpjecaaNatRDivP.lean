/- Plain facts of the reference's division bit by bit. -/
import Derived.Test.YtiflmnmkmpjecaaG1
set_option linter.unusedVariables false
namespace Go.Proofs.Ytiflmnmkmpjecaa
open Go.RowKit

/-- the remainder behind the bits from t on -/
def rr (a b t : Nat) : Nat := a / 2 ^ t % b
theorem rr_lt {a b : Nat} (hb : 0 < b) (t : Nat) : rr a b t < b := Nat.mod_lt _ hb
theorem half_step (a t : Nat) : a / 2 ^ t = 2 * (a / 2 ^ (t + 1)) + a / 2 ^ t % 2 := by
  rw [Nat.pow_succ, ← Nat.div_div_eq_div_mul]
  omega
theorem rr_step {a b : Nat} (hb : 0 < b) (t : Nat) : rr a b t = if b ≤ 2 * rr a b (t + 1) + a / 2 ^ t % 2 then 2 * rr a b (t + 1) + a / 2 ^ t % 2 - b else 2 * rr a b (t + 1) + a / 2 ^ t % 2 := by
  have h := half_step a t
  have hl := rr_lt (a := a) hb (t + 1)
  unfold rr at *
  obtain ⟨A, hA⟩ : ∃ A, A = a / 2 ^ (t + 1) := ⟨_, rfl⟩
  obtain ⟨d, hd⟩ : ∃ d, d = a / 2 ^ t % 2 := ⟨_, rfl⟩
  have hd2 : d < 2 := by rw [hd]; exact Nat.mod_lt _ (by omega)
  rw [← hA] at hl ⊢
  rw [← hd]
  rw [← hA, ← hd] at h
  rw [h]
  have hm := Nat.div_add_mod A b
  have e : 2 * A + d = (2 * (A % b) + d) + b * (2 * (A / b)) := by
    have : b * (2 * (A / b)) = 2 * (b * (A / b)) := by rw [Nat.mul_left_comm]
    omega
  rw [e, Nat.add_mul_mod_self_left]
  split
  · rename_i h1
    rw [Nat.mod_eq_sub_mod h1, Nat.mod_eq_of_lt (by omega)]
  · rename_i h1
    exact Nat.mod_eq_of_lt (by omega)
theorem quo_step {a b : Nat} (hb : 0 < b) (t : Nat) : a / b / 2 ^ t % 2 = if b ≤ 2 * rr a b (t + 1) + a / 2 ^ t % 2 then 1 else 0 := by
  have h := half_step a t
  have hl := rr_lt (a := a) hb (t + 1)
  unfold rr at *
  obtain ⟨A, hA⟩ : ∃ A, A = a / 2 ^ (t + 1) := ⟨_, rfl⟩
  obtain ⟨d, hd⟩ : ∃ d, d = a / 2 ^ t % 2 := ⟨_, rfl⟩
  have hd2 : d < 2 := by rw [hd]; exact Nat.mod_lt _ (by omega)
  rw [← hA] at hl ⊢
  rw [← hd]
  rw [← hA, ← hd] at h
  rw [Nat.div_div_eq_div_mul, Nat.mul_comm b, ← Nat.div_div_eq_div_mul, h]
  have hm := Nat.div_add_mod A b
  have e : 2 * A + d = (2 * (A % b) + d) + b * (2 * (A / b)) := by
    have : b * (2 * (A / b)) = 2 * (b * (A / b)) := by rw [Nat.mul_left_comm]
    omega
  rw [e, Nat.add_mul_div_left _ _ hb]
  split
  · rename_i h1
    have : (2 * (A % b) + d) / b = 1 := by
      rw [Nat.div_eq_sub_div hb h1, Nat.div_eq_of_lt (by omega)]
    omega
  · rename_i h1
    rw [Nat.div_eq_of_lt (by omega)]
    omega
/-- the part of a quotient's digit that is known behind the bits from s on -/
def qpart (d s : Nat) : Nat := d / 2 ^ s * 2 ^ s
theorem qpart_top {d : Nat} (h : d < 65536) : qpart d 16 = 0 := by
  unfold qpart
  rw [Nat.div_eq_of_lt (by simpa using h), Nat.zero_mul]
theorem qpart_end (d : Nat) : qpart d 0 = d := by unfold qpart; simp
theorem qpart_step (d s : Nat) : qpart d s = qpart d (s + 1) + d / 2 ^ s % 2 * 2 ^ s := by
  unfold qpart
  have h := half_step d s
  conv => lhs; rw [h]
  rw [Nat.add_mul, Nat.pow_succ]
  congr 1
  rw [Nat.mul_comm 2, Nat.mul_assoc, Nat.mul_comm 2]
theorem bit_digit (a i s : Nat) (hs : s < 16) : a / 2 ^ (16 * i + s) % 2 = d16 a i / 2 ^ s % 2 := by
  have hp : (2 : Nat) ^ (16 * i) = 65536 ^ i := by rw [Nat.pow_mul]
  have he : (65536 : Nat) = 2 ^ s * (2 * 2 ^ (15 - s)) := by
    rw [← Nat.pow_succ', ← Nat.pow_add, show s + (15 - s).succ = 16 by omega]
  show a / 2 ^ (16 * i + s) % 2 = a / 65536 ^ i % 65536 / 2 ^ s % 2
  rw [Nat.pow_add, hp, ← Nat.div_div_eq_div_mul]
  generalize a / 65536 ^ i = T
  have hm := Nat.div_add_mod T 65536
  generalize T % 65536 = u at *
  generalize T / 65536 = K at *
  have e : T = u + 2 ^ s * (2 * (2 ^ (15 - s) * K)) := by
    rw [← hm, he]
    rw [Nat.mul_assoc, Nat.mul_assoc, Nat.add_comm]
  rw [e, Nat.add_mul_div_left _ _ (Nat.pow_pos (by omega)), Nat.add_mul_mod_self_left]
theorem rr_top {a b t : Nat} (h : a < 2 ^ t) : rr a b t = 0 := by unfold rr; rw [Nat.div_eq_of_lt h, Nat.zero_mod]
theorem rr_end (a b : Nat) : rr a b 0 = a % b := by unfold rr; rw [Nat.pow_zero, Nat.div_one]
/-- one bit: the remainder and the quotient's digit -/
theorem div_bit {a b : Nat} (hb : 0 < b) (i s : Nat) (hs : s < 16) :
    rr a b (16 * i + s) = (if b ≤ 2 * rr a b (16 * i + (s + 1)) + d16 a i / 2 ^ s % 2 then 2 * rr a b (16 * i + (s + 1)) + d16 a i / 2 ^ s % 2 - b else 2 * rr a b (16 * i + (s + 1)) + d16 a i / 2 ^ s % 2) ∧
    qpart (d16 (a / b) i) s = qpart (d16 (a / b) i) (s + 1) + if b ≤ 2 * rr a b (16 * i + (s + 1)) + d16 a i / 2 ^ s % 2 then 2 ^ s else 0 := by
  have h1 := rr_step (a := a) hb (16 * i + s)
  have h2 := quo_step (a := a) hb (16 * i + s)
  rw [bit_digit a i s hs] at h1
  rw [bit_digit a i s hs, bit_digit (a / b) i s hs] at h2
  refine ⟨h1, ?_⟩
  rw [qpart_step, h2]
  congr 1
  split <;> rename_i h
  · rw [if_pos (by exact h), Nat.one_mul]
  · rw [if_neg (by exact h), Nat.zero_mul]
/-- the quotient's digits behind digit j's bits from s on -/
def qi (Q j s t : Nat) : Nat := if t < j then 0 else if t = j then qpart (d16 Q j) s else d16 Q t
theorem qi_start (Q j t : Nat) : qi Q (j + 1) 0 t = qi Q j 16 t := by
  unfold qi
  by_cases h : t < j
  · rw [if_pos h, if_pos (by omega)]
  · by_cases e : t = j
    · subst e; rw [if_pos (by omega), if_neg h, if_pos rfl, qpart_top (d16_lt _ _)]
    · rw [if_neg (show ¬ t < j + 1 by omega), if_neg h, if_neg e]
      by_cases e2 : t = j + 1
      · subst e2; rw [if_pos rfl, qpart_end]
      · rw [if_neg e2]
theorem qi_put (Q j s s2 t : Nat) : qi Q j s2 t = if t = j then qpart (d16 Q j) s2 else qi Q j s t := by
  unfold qi
  by_cases e : t = j
  · subst e; rw [if_neg (by omega), if_pos rfl, if_pos rfl]
  · rw [if_neg e, if_neg e, if_neg e]
theorem qi_end (Q t : Nat) : qi Q 0 0 t = d16 Q t := by
  unfold qi
  rw [if_neg (by omega)]
  by_cases e : t = 0
  · subst e; rw [if_pos rfl, qpart_end]
  · rw [if_neg e]
end Go.Proofs.Ytiflmnmkmpjecaa
