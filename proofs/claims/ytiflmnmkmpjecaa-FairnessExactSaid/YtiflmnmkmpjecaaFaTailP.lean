/- The sums of Tail are at most the power of the denominator: the binomial theorem in the range of the chapter. -/
import Derived.Test.YtiflmnmkmpjecaaG4
import Derived.Test.YtiflmnmkmpjecaaFaRuns
set_option linter.unusedVariables false
namespace Go.Proofs.Ytiflmnmkmpjecaa
open Go.RowKit
namespace Fa
open Fr
set_option maxRecDepth 100000 in
theorem pascal : ∀ n, n < 64 → ∀ k, k < n → cb (n + 1) (k + 1) = cb n k + cb n (k + 1) := by decide +kernel
set_option maxRecDepth 100000 in
theorem diag : ∀ n, n < 66 → cb n n = 1 := by decide +kernel
theorem tm_step {n a r k : Nat} (hn : n < 64) (hk : k < n) : tm (n + 1) a r (k + 1) = a * tm n a r k + r * tm n a r (k + 1) := by
  unfold tm
  rw [pascal n hn k hk]
  have e1 : n + 1 - (k + 1) = n - k := by omega
  obtain ⟨m, hm⟩ : ∃ m, n - k = m + 1 := ⟨n - k - 1, by omega⟩
  have e2 : n - (k + 1) = m := by omega
  rw [e1, e2, hm, Nat.pow_succ, Nat.pow_succ]
  generalize cb n k = x
  generalize cb n (k + 1) = y
  generalize a ^ k = u
  generalize r ^ m = v
  grind
theorem st_step {n a r : Nat} (hn : n < 64) : ∀ m, m ≤ n → st (n + 1) a r 0 (m + 1) = r * st n a r 0 (m + 1) + a * st n a r 0 m
  | 0, _ => by
    simp only [st, tm, Nat.zero_add, Nat.pow_zero, Nat.sub_zero, cb_zero, Nat.pow_succ]
    grind
  | m + 1, h => by
    rw [st, st_step hn m (by omega)]
    have e := tm_step (a := a) (r := r) hn (show m < n by omega)
    rw [Nat.zero_add, e]
    rw [show st n a r 0 (m + 1 + 1) = st n a r 0 (m + 1) + tm n a r (0 + (m + 1)) from rfl, Nat.zero_add]
    rw [show st n a r 0 (m + 1) = st n a r 0 m + tm n a r (0 + m) from rfl, Nat.zero_add]
    grind
theorem st_whole {a r : Nat} : ∀ n, n ≤ 64 → st n a r 0 (n + 1) = (a + r) ^ n
  | 0, _ => by simp [st, tm, cb, cl]
  | n + 1, h => by
    have ih := st_whole (a := a) (r := r) n (by omega)
    rw [show st (n + 1) a r 0 (n + 1 + 1) = st (n + 1) a r 0 (n + 1) + tm (n + 1) a r (0 + (n + 1)) from rfl, Nat.zero_add, st_step (by omega) n (Nat.le_refl n)]
    have e : tm (n + 1) a r (n + 1) = a * tm n a r n := by
      unfold tm
      rw [diag (n + 1) (by omega), diag n (by omega), Nat.sub_self, Nat.sub_self, Nat.pow_succ]
      grind
    have e2 : st n a r 0 (n + 1) = st n a r 0 n + tm n a r n := by rw [st, Nat.zero_add]
    rw [e, Nat.pow_succ, ← ih, e2]
    grind
theorem st_split {n a r k : Nat} : ∀ i, st n a r 0 (k + i) = st n a r 0 k + st n a r k i
  | 0 => by rw [Nat.add_zero, st, Nat.add_zero]
  | i + 1 => by rw [← Nat.add_assoc, st, st_split i, st, Nat.zero_add, Nat.add_assoc]
theorem st_le {n a r k i : Nat} (hn : n ≤ 64) (h : k + i ≤ n + 1) : st n a r k i ≤ (a + r) ^ n := by
  rw [← st_whole n hn]
  obtain ⟨j, hj⟩ : ∃ j, n + 1 = (k + i) + j := ⟨n + 1 - (k + i), by omega⟩
  rw [hj, st_split j, st_split i]
  omega
theorem tm_le {n a r j : Nat} (hn : n ≤ 64) (h : j ≤ n) : tm n a r j ≤ (a + r) ^ n := by
  have := st_le (a := a) (r := r) (k := j) (i := 1) hn (by omega)
  simpa [st] using this
section
variable {n a d k : Nat}
theorem p64 {x y : Nat} (h : x ≤ y) (hy : L32 y ≤ 64) : L32 x ≤ 64 := Nat.le_trans (Nt.len_mono (by omega) h) hy
theorem pw_le (had : a ≤ d) (hd : 0 < d) {j : Nat} (hj : j ≤ n) : a ^ j ≤ d ^ n := Nat.le_trans (Nat.pow_le_pow_left had j) (Nat.pow_le_pow_right hd hj)
theorem mid_le (had : a ≤ d) (hd : 0 < d) {j : Nat} (hj : j ≤ n) : a ^ j * (d - a) ^ (n - j) ≤ d ^ n := by
  have h := Nat.mul_le_mul (Nat.pow_le_pow_left had j) (Nat.pow_le_pow_left (Nat.sub_le d a) (n - j))
  rwa [← Nat.pow_add, show j + (n - j) = n by omega] at h
theorem tail_hT (hn : n ≤ 64) (had : a ≤ d) (hd : 0 < d) (h64 : L32 (d ^ n) ≤ 64) : ∀ j, j ≤ n → L32 (a ^ j) ≤ 64 ∧ L32 ((d - a) ^ (n - j)) ≤ 64 ∧ L32 (1 * a ^ j) ≤ 64 ∧ L32 (1 * a ^ j * (d - a) ^ (n - j)) ≤ 64 ∧ L32 (tm n a (d - a) j) ≤ 64 := fun j hj => by
  have h1 := p64 (pw_le had hd hj) h64
  have h3 := p64 (mid_le had hd hj) h64
  refine ⟨h1, p64 (pw_le (Nat.sub_le d a) hd (Nat.sub_le n j)) h64, by rw [Nat.one_mul]; exact h1, by rw [Nat.one_mul]; exact h3, p64 (tm_le hn hj) ?_⟩
  rw [show a + (d - a) = d by omega]
  exact h64
theorem tail_hS (hn : n ≤ 64) (had : a ≤ d) (hk : k ≤ n) (h64 : L32 (d ^ n) ≤ 64) : ∀ i, i ≤ n - k + 1 → L32 (st n a (d - a) k i) ≤ 64 := fun i hi => by
  refine p64 (st_le hn (by omega)) ?_
  rw [show a + (d - a) = d by omega]
  exact h64
end
end Fa
end Go.Proofs.Ytiflmnmkmpjecaa
