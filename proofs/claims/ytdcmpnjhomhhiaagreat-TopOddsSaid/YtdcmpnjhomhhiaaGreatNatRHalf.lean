/- The walk of the reference's half. -/
import Derived.Test.YtdcmpnjhomhhiaaGreatG1
import Derived.Test.YtdcmpnjhomhhiaaGreatNatLong3
import Derived.Test.YtdcmpnjhomhhiaaGreatNatDivMod
set_option linter.unusedVariables false
namespace Go.Proofs.YtdcmpnjhomhhiaaGreat
open Go.RowKit

/-- The bit that is carried down to digit k - 1. -/
def hrest (x k : Nat) : Nat := x / 65536 ^ k % 2
theorem hrest_le (x k : Nat) : hrest x k ≤ 1 := by have := Nat.mod_lt (x / 65536 ^ k) (show 0 < 2 by omega); unfold hrest; omega
theorem hrest_top {x n : Nat} (h : Fit16 x n) : hrest x n = 0 := by unfold hrest; rw [Nat.div_eq_of_lt h]
theorem hrest_quo {x k : Nat} : (hrest x (k + 1) * 65536 + d16 x k) / 2 = d16 (x / 2) k := (Nt.small_quo (by omega) (by omega)).symm
theorem hrest_mod {x k : Nat} : (hrest x (k + 1) * 65536 + d16 x k) % 2 = hrest x k := (Nt.small_rem (by omega) (by omega)).symm
def hcell (x k t : Nat) : Nat := if t < k then 0 else d16 (x / 2) t
theorem hcell_next (x k t : Nat) : Dg (hcell x k) t = if t = k then .int .i64 (d16 (x / 2) k : Int) else Dg (hcell x (k + 1)) t := by
  unfold Dg hcell
  by_cases e : t = k
  · subst e; rw [if_neg (by omega), if_pos rfl]
  · rw [if_neg e]
    by_cases h : t < k
    · rw [if_pos h, if_pos (by omega)]
    · rw [if_neg h, if_neg (show ¬ t < k + 1 by omega)]
theorem hcell_end (x t : Nat) : hcell x 0 t = d16 (x / 2) t := by unfold hcell; rw [if_neg (by omega)]

end Go.Proofs.YtdcmpnjhomhhiaaGreat
