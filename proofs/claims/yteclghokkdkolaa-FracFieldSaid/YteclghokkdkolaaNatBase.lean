/- Words for the walks of package nat: numbers in memory. No statement is proved here. -/
import Derived.Test.YteclghokkdkolaaProg
import Derived.Test.YteclghokkdkolaaBase2
import Derived.Test.YteclghokkdkolaaNum
set_option linter.unusedVariables false
namespace Go.Proofs.Yteclghokkdkolaa
open Go.RowKit

/-- Limbs, and digits of 16 bits. -/
def L32 (N : Nat) : Nat := Nt.len 4294967296 N
def d32 (N j : Nat) : Nat := Nt.dig 4294967296 N j
def Fit32 (N n : Nat) : Prop := N < 4294967296 ^ n
def L16 (N : Nat) : Nat := Nt.len 65536 N
def d16 (N j : Nat) : Nat := Nt.dig 65536 N j
def Fit16 (N n : Nat) : Prop := N < 65536 ^ n
/-- Limbs, and digits, as cells. -/
def Lm (f : Nat → Nat) : Nat → Value := fun j => .int .u32 (f j : Int)
def Dg (f : Nat → Nat) : Nat → Value := fun j => .int .i64 (f j : Int)
/-- A value of type api.Nat. -/
def natv (D : Option Addr) (n c : Nat) : Value := .agg #[.slice D n c]

theorem Cells.lm {w : World} {D : Option Addr} {n : Nat} {f : Nat → Nat} (h : Cells w D n (Lm f)) {k : Nat} (hk : k < n) :
    ∃ b off, D = some ⟨b, off, none⟩ ∧ b < w.heap.size ∧ w.cell? ⟨b, off + k, none⟩ = some (.int .u32 (f k : Int)) := by
  obtain ⟨b, off, e, hlt, hc⟩ := h (by omega)
  exact ⟨b, off, e, hlt, hc k hk⟩
theorem Cells.dg {w : World} {D : Option Addr} {n : Nat} {f : Nat → Nat} (h : Cells w D n (Dg f)) {k : Nat} (hk : k < n) :
    ∃ b off, D = some ⟨b, off, none⟩ ∧ b < w.heap.size ∧ w.cell? ⟨b, off + k, none⟩ = some (.int .i64 (f k : Int)) := by
  obtain ⟨b, off, e, hlt, hc⟩ := h (by omega)
  exact ⟨b, off, e, hlt, hc k hk⟩
theorem Cells.congr {w : World} {D : Option Addr} {n : Nat} {F G : Nat → Value} (h : Cells w D n F) (e : ∀ j, j < n → F j = G j) : Cells w D n G := fun hn => by
  obtain ⟨b, off, hD, hlt, hc⟩ := h hn
  exact ⟨b, off, hD, hlt, fun j hj => by rw [hc j hj, e j hj]⟩
theorem d32_lt (N j : Nat) : d32 N j < 4294967296 := Nt.dig_lt (by omega) N j
theorem d16_lt (N j : Nat) : d16 N j < 65536 := Nt.dig_lt (by omega) N j
theorem d32_le (N j : Nat) : (d32 N j : Int) ≤ 4294967295 := by have := d32_lt N j; omega
theorem d16_le (N j : Nat) : (d16 N j : Int) ≤ 65535 := by have := d16_lt N j; omega
theorem fit32_len (N : Nat) : Fit32 N (L32 N) := Nt.lt_pow_len (by omega) N
theorem fit16_len (N : Nat) : Fit16 N (L16 N) := Nt.lt_pow_len (by omega) N
theorem fit32_down {N k : Nat} (hk : 0 < k) (h : Fit32 N k) (hd : d32 N (k - 1) = 0) : Fit32 N (k - 1) := by
  unfold Fit32 at h ⊢
  obtain ⟨j, rfl⟩ : ∃ j, k = j + 1 := ⟨k - 1, by omega⟩
  rw [Nat.add_sub_cancel] at hd ⊢
  have h1 := Nt.mod_next 4294967296 N j
  rw [Nat.mod_eq_of_lt h] at h1
  unfold d32 at hd
  rw [hd, Nat.mul_zero, Nat.add_zero] at h1
  rw [h1]; exact Nat.mod_lt _ (Nat.pow_pos (by omega))
theorem fit16_down {N k : Nat} (hk : 0 < k) (h : Fit16 N k) (hd : d16 N (k - 1) = 0) : Fit16 N (k - 1) := by
  unfold Fit16 at h ⊢
  obtain ⟨j, rfl⟩ : ∃ j, k = j + 1 := ⟨k - 1, by omega⟩
  rw [Nat.add_sub_cancel] at hd ⊢
  have h1 := Nt.mod_next 65536 N j
  rw [Nat.mod_eq_of_lt h] at h1
  unfold d16 at hd
  rw [hd, Nat.mul_zero, Nat.add_zero] at h1
  rw [h1]; exact Nat.mod_lt _ (Nat.pow_pos (by omega))
theorem len32_end {N k : Nat} (h : Fit32 N k) (hd : k = 0 ∨ d32 N (k - 1) ≠ 0) : L32 N = k := Nt.len_dig (by omega) h hd
theorem len16_end {N k : Nat} (h : Fit16 N k) (hd : k = 0 ∨ d16 N (k - 1) ≠ 0) : L16 N = k := Nt.len_dig (by omega) h hd
theorem len32_top {N : Nat} (h : 0 < L32 N) : 0 < d32 N (L32 N - 1) := Nat.pos_of_ne_zero (Nt.len_top (by omega) h)
theorem len16_top {N : Nat} (h : 0 < L16 N) : 0 < d16 N (L16 N - 1) := Nat.pos_of_ne_zero (Nt.len_top (by omega) h)
theorem d32_high {N j : Nat} (h : L32 N ≤ j) : d32 N j = 0 := Nt.dig_high (Nat.lt_of_lt_of_le (fit32_len N) (Nat.pow_le_pow_right (by omega) h))
theorem d16_high {N j : Nat} (h : L16 N ≤ j) : d16 N j = 0 := Nt.dig_high (Nat.lt_of_lt_of_le (fit16_len N) (Nat.pow_le_pow_right (by omega) h))
theorem fit32_le {N n : Nat} (h : Fit32 N n) : L32 N ≤ n := Nt.len_le (by omega) h
theorem fit16_le {N n : Nat} (h : Fit16 N n) : L16 N ≤ n := Nt.len_le (by omega) h
theorem fit32_of {N n : Nat} (h : L32 N ≤ n) : Fit32 N n := Nat.lt_of_lt_of_le (fit32_len N) (Nat.pow_le_pow_right (by omega) h)
theorem fit16_of {N n : Nat} (h : L16 N ≤ n) : Fit16 N n := Nat.lt_of_lt_of_le (fit16_len N) (Nat.pow_le_pow_right (by omega) h)
theorem L32_zero {N : Nat} : L32 N = 0 ↔ N = 0 := Nt.len_eq_zero (by omega)
theorem L16_zero {N : Nat} : L16 N = 0 ↔ N = 0 := Nt.len_eq_zero (by omega)
/-- The number of n limbs. -/
def v32 (f : Nat → Nat) (n : Nat) : Nat := Nt.val 4294967296 f n
/-- Are n limbs a valid number? -/
def vd (n : Nat) (f : Nat → Nat) : Bool := decide (n ≤ 64) && (n == 0 || f (n - 1) != 0)
theorem vd_num {n : Nat} {f : Nat → Nat} (hf : ∀ j, j < n → f j < 4294967296) (h : vd n f = true) : n ≤ 64 ∧ L32 (v32 f n) = n ∧ ∀ j, j < n → d32 (v32 f n) j = f j := by
  unfold vd at h
  simp only [Bool.and_eq_true, Bool.or_eq_true, decide_eq_true_eq, beq_iff_eq, bne_iff_ne] at h
  exact ⟨h.1, Nt.len_val (by omega) hf h.2, fun j hj => Nt.dig_val (by omega) hf hj⟩
end Go.Proofs.Yteclghokkdkolaa
