/- Several texts in one. -/
import Derived.Test.YtdcmpnjhomhhiaaGreatFrArith
import Derived.Lib.Strings
import Derived.Lib.Slices
import Derived.Lib.Walk
import Derived.Test.YtdcmpnjhomhhiaaGreatNatFormat
import Derived.Laws.Concat
/- The walk of strings.Repeat at the text "0", up to 19 copies. -/
set_option linter.unusedVariables false
namespace Go.Proofs.YtdcmpnjhomhhiaaGreat
open Go.RowKit
namespace Fr
/-- c times the byte '0'. -/
def zeros (c : Nat) : ByteArray := ⟨(List.replicate c (48 : UInt8)).toArray⟩
end Fr
end Go.Proofs.YtdcmpnjhomhhiaaGreat

/- The walk of frac.Decimal. -/
set_option linter.unusedVariables false
namespace Go.Proofs.YtdcmpnjhomhhiaaGreat
open Go.RowKit
namespace Fr
/-- The digits, with zeros ahead where they are too few. -/
def pad (q P : Nat) : ByteArray := if (Dc.text q).size ≤ P then zeros (P + 1 - (Dc.text q).size) ++ Dc.text q else Dc.text q
/-- A number of 10^P-th parts in decimal. -/
def dec (q P : Nat) : ByteArray := if P = 0 then Dc.text q else (pad q P).extract 0 ((pad q P).size - P) ++ ⟨#[46]⟩ ++ (pad q P).extract ((pad q P).size - P) (pad q P).size
theorem pow_bound (m : Nat) : 4294967296 ^ m ≤ 10 ^ (10 * m) := by
  rw [Nat.pow_mul]
  exact Nat.pow_le_pow_left (by omega) m
theorem text_le {q : Nat} (h : L32 q ≤ 64) : (Dc.text q).size ≤ 700 := by
  rw [Dc.text_size]
  split
  · omega
  · have : Dc.len q ≤ 10 * L32 q := Nt.len_le (by omega) (Nat.lt_of_lt_of_le (fit32_len q) (pow_bound (L32 q)))
    omega
end Fr
end Go.Proofs.YtdcmpnjhomhhiaaGreat

/- The walks of frac.Make where it refuses, and of frac.Of. -/
set_option linter.unusedVariables false
namespace Go.Proofs.YtdcmpnjhomhhiaaGreat
open Go.RowKit
namespace Fr
end Fr
end Go.Proofs.YtdcmpnjhomhhiaaGreat

/- The walks of the reference's Same, and of the law's fractions of small numbers. -/
set_option linter.unusedVariables false
namespace Go.Proofs.YtdcmpnjhomhhiaaGreat
open Go.RowKit
namespace Fr
theorem num_eq {x y : Nat} (h : L32 x = L32 y) (hd : ∀ j, j < L32 x → d32 x j = d32 y j) : x = y := by
  have h1 := Nt.dig_ext (b := 4294967296) (by omega) (x := x) (y := y) (L32 x) hd
  have h2 := fit32_len x
  have h3 := fit32_len y
  rw [← h] at h3
  unfold Fit32 at h2 h3
  rw [Nat.mod_eq_of_lt h2, Nat.mod_eq_of_lt h3] at h1
  exact h1
theorem all_next {x y k : Nat} (h : ∀ j, j < k → d32 x j = d32 y j) (hk : d32 x k = d32 y k) : ∀ j, j < k + 1 → d32 x j = d32 y j := fun j hj => by
  by_cases e : j = k
  · rw [e]; exact hk
  · exact h j (by omega)
end Fr
end Go.Proofs.YtdcmpnjhomhhiaaGreat
