/- Plain facts for the rest of nat.divideLong. -/
import Derived.Test.YteclghokkdkolaaNatLong2
set_option linter.unusedVariables false
namespace Go.Proofs.Yteclghokkdkolaa
open Go.RowKit

theorem guess_case {W v G m : Nat} (hv0 : 0 < v) (hfit : Fit32 v m) (hW : W < v * 4294967296) (hG : G ≤ 4294967296) (hq : W / v = G ∨ W / v + 1 = G) :
    ∃ z β, Fit32 W (m + 1) ∧ Fit32 z (m + 1) ∧ Fit32 (G * v) (m + 1) ∧ z + G * v = W + 4294967296 ^ (m + 1) * β ∧ ((β = 0 ∧ G = W / v ∧ z = W % v) ∨ (β = 1 ∧ G - 1 = W / v ∧ 1 ≤ G ∧ z + v = W % v + 4294967296 ^ (m + 1) * 1)) := by
  unfold Fit32 at *
  have hB : 4294967296 ^ (m + 1) = 4294967296 * 4294967296 ^ m := by rw [Nat.pow_succ, Nat.mul_comm]
  have hm := Nat.div_add_mod W v
  have hml := Nat.mod_lt W hv0
  have hGv : G * v ≤ 4294967296 * v := Nat.mul_le_mul_right v hG
  obtain ⟨P, hP⟩ : ∃ P, P = 4294967296 ^ m := ⟨_, rfl⟩
  rw [← hP] at hB hfit
  rw [hB]
  clear hP hB
  obtain ⟨q, hqe⟩ : ∃ q, q = W / v := ⟨_, rfl⟩
  obtain ⟨r, hre⟩ : ∃ r, r = W % v := ⟨_, rfl⟩
  rw [← hqe, ← hre] at hm
  rw [← hre] at hml
  rw [← hqe] at hq
  rw [← hqe, ← hre]
  clear hqe hre
  rcases hq with h | h
  · have h2 : G * v = v * q := by rw [← h, Nat.mul_comm]
    exact ⟨r, 0, by omega, by omega, by omega, by omega, .inl ⟨rfl, h.symm, rfl⟩⟩
  · have h2 : G * v = v * q + v := by rw [← h, Nat.add_mul, Nat.one_mul, Nat.mul_comm]
    exact ⟨4294967296 * P + r - v, 1, by omega, by omega, by omega, by omega, .inr ⟨rfl, by omega, by omega, by omega⟩⟩

/-- a digit of the number shifted down -/
theorem down_digit {R s p q : Nat} (hp : p = 2 ^ s) (hpq : p * q = 4294967296) (i : Nat) : d32 (R / p) i = d32 R i / p + d32 R (i + 1) * q % 4294967296 := by
  have hp0 : 0 < p := by rw [hp]; exact Nat.pow_pos (by omega)
  have hq0 : 0 < q := by rcases Nat.eq_zero_or_pos q with h | h; · rw [h] at hpq; omega
                         · exact h
  unfold d32 Nt.dig
  rw [Nat.pow_succ, ← Nat.div_div_eq_div_mul, Nat.div_div_eq_div_mul, Nat.mul_comm p, ← Nat.div_div_eq_div_mul]
  generalize R / 4294967296 ^ i = T
  obtain ⟨a, ha⟩ : ∃ a, a = T % 4294967296 := ⟨_, rfl⟩
  obtain ⟨T1, hT1⟩ : ∃ T1, T1 = T / 4294967296 := ⟨_, rfl⟩
  obtain ⟨b, hb⟩ : ∃ b, b = T1 % 4294967296 := ⟨_, rfl⟩
  obtain ⟨T2, hT2⟩ : ∃ T2, T2 = T1 / 4294967296 := ⟨_, rfl⟩
  rw [← ha, ← hT1, ← hb]
  have e1 : T = p * (q * T1) + a := by rw [← Nat.mul_assoc, hpq]; omega
  have e2 : T1 = 4294967296 * T2 + b := by omega
  have hal : a < 4294967296 := by omega
  have hd : T / p = q * T1 + a / p := by rw [e1, Nat.mul_add_div hp0]
  have hap : a / p < q := (Nat.div_lt_iff_lt_mul hp0).2 (by rw [Nat.mul_comm, hpq]; exact hal)
  have e3 : q * T1 = 4294967296 * (q * T2) + b * q := by rw [e2, Nat.mul_add, Nat.mul_left_comm, Nat.mul_comm q b]
  have e4 : b * q % 4294967296 = q * (b % p) := by
    rw [← hpq, Nat.mul_comm b q, Nat.mul_comm p q, Nat.mul_mod_mul_left]
  have hbp : b % p < p := Nat.mod_lt _ hp0
  have e5 : q * (b % p) + q ≤ 4294967296 := by
    rw [← hpq, Nat.mul_comm p q, ← Nat.mul_succ]
    exact Nat.mul_le_mul_left q hbp
  rw [hd, e3, show 4294967296 * (q * T2) + b * q + a / p = b * q + a / p + 4294967296 * (q * T2) by omega, Nat.add_mul_mod_self_left, Nat.add_mod, e4]
  have hap2 : a / p % 4294967296 = a / p := Nat.mod_eq_of_lt (by omega)
  rw [hap2]
  omega
theorem or32 (a b : Nat) (ha : a < 4294967296) (hb : b < 4294967296) : bits .or .u32 (a : Int) (b : Int) = ((a ||| b : Nat) : Int) := by
  have hx : a ||| b < 2 ^ 32 := Nat.or_lt_two_pow (by omega) (by omega)
  have h1 : (BitVec.ofInt 32 (a : Int)).toNat = a := by
    rw [BitVec.ofInt_natCast, BitVec.toNat_ofNat]; exact Nat.mod_eq_of_lt (by omega)
  have h2 : (BitVec.ofInt 32 (b : Int)).toNat = b := by
    rw [BitVec.ofInt_natCast, BitVec.toNat_ofNat]; exact Nat.mod_eq_of_lt (by omega)
  show IntKind.u32.wrap ((BitVec.ofInt 32 (a : Int) ||| BitVec.ofInt 32 (b : Int)).toNat : Int) = _
  rw [BitVec.toNat_or, h1, h2, IntKind.wrap_u32]
  omega
theorem or_down {A R k s p q : Nat} (hp : p = 2 ^ s) (hq : q = 2 ^ (32 - s)) (hpq : p * q = 4294967296) (hs : s ≤ 31) (h : d32 A k = d32 R k / p + d32 R (k + 1) * q % 4294967296) :
    bits .or .u32 ((d32 R k / p : Nat) : Int) ((d32 R (k + 1) * q % 4294967296 : Nat) : Int) = (d32 A k : Int) := by
  have hp0 : 0 < p := by rw [hp]; exact Nat.pow_pos (by omega)
  have ha := d32_lt R k
  have hap : d32 R k / p < 2 ^ (32 - s) := by rw [← hq]; exact (Nat.div_lt_iff_lt_mul hp0).2 (by rw [Nat.mul_comm, hpq]; exact ha)
  have e4 : d32 R (k + 1) * q % 4294967296 = 2 ^ (32 - s) * (d32 R (k + 1) % p) := by
    rw [← hpq, Nat.mul_comm _ q, Nat.mul_comm p q, Nat.mul_mod_mul_left, hq]
  have h1 : d32 R k / p ≤ d32 R k := Nat.div_le_self _ _
  have h2 : d32 R (k + 1) * q % 4294967296 < 4294967296 := Nat.mod_lt _ (by omega)
  rw [or32 _ _ (by omega) (by omega), h, Nat.or_comm, e4, ← Nat.two_pow_add_eq_or_of_lt hap, Nat.add_comm]
theorem or_down2 {A R k s p q : Nat} (hp : p = 2 ^ s) (hq : q = 2 ^ (32 - s)) (hpq : p * q = 4294967296) (hs : s ≤ 31) (h : d32 A k = d32 R k / p + d32 R (k + 1) * q % 4294967296) :
    bits .or .u32 ((d32 R k : Int) / (p : Int)) (IntKind.u64.wrap (IntKind.u64.wrap (d32 R (k + 1) : Int) * 2 ^ (32 - s)) % 4294967296) = (d32 A k : Int) := by
  have hb := d32_lt R (k + 1)
  have hq2 : q ≤ 4294967296 := by rw [hq]; exact Nat.pow_le_pow_right (n := 2) (by omega) (by omega : 32 - s ≤ 32)
  have hbq : d32 R (k + 1) * q ≤ 4294967295 * 4294967296 := Nat.mul_le_mul (by omega) hq2
  have e1 : (d32 R (k + 1) : Int) * 2 ^ (32 - s) = ((d32 R (k + 1) * q : Nat) : Int) := by rw [hq, Int.natCast_mul, Int.natCast_pow]; rfl
  rw [IntWalk.u64_in (d32 R (k + 1) : Int) (by omega), e1, IntWalk.u64_in _ (by omega), ← or_down hp hq hpq hs h, Int.natCast_ediv, Int.natCast_emod]
  rfl
def scell (A R k t : Nat) : Value := if t < k then .int .u32 (d32 A t : Int) else .int .u32 (d32 R t : Int)
theorem scell_zero (A R t : Nat) : Lm (d32 R) t = scell A R 0 t := by unfold scell Lm; rw [if_neg (by omega)]
theorem scell_at {A R k t : Nat} (h : k ≤ t) : scell A R k t = .int .u32 (d32 R t : Int) := by unfold scell; rw [if_neg (by omega)]
theorem scell_lt {A R k t : Nat} (h : t < k) : scell A R k t = .int .u32 (d32 A t : Int) := by unfold scell; rw [if_pos h]
theorem scell_next (A R k t : Nat) : scell A R (k + 1) t = if t = k then .int .u32 (d32 A k : Int) else scell A R k t := by
  unfold scell
  by_cases e : t = k
  · subst e; rw [if_pos (by omega), if_pos rfl]
  · rw [if_neg e]
    by_cases h : t < k
    · rw [if_pos h, if_pos (by omega)]
    · rw [if_neg h, if_neg (by omega)]
end Go.Proofs.Yteclghokkdkolaa
