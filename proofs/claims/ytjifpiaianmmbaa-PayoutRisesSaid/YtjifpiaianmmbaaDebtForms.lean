/- Contracts of Offset and Reduce in one form each, for the laws on debts. -/
import Derived.Test.YtjifpiaianmmbaaDebtAwake
import Derived.Test.YtjifpiaianmmbaaDebtFacts
set_option linter.unusedVariables false
namespace Go.Proofs.Ytjifpiaianmmbaa
open Go.RowKit

theorem offset_bad {D : Option Addr} {n c : Nat} {C : Nat → ByteArray} {R A : Nat → Int} {y a : Int} {w : World} (hn : n ≤ 9223372036854775807) (h : Cells w D (n * 3) (Three C R A)) (hC : ∀ i, i < n → (C i).size ≤ maxLen) (hy : Db.oerr C R A n a = y) (h0 : y ≠ 0) :
    Calls Try.prog 18 #[.slice D n c, .int .i64 a] w fun e w' => e = .returned (.tuple #[.slice none 0 0, .int .i64 0, .int .i64 y]) ∧ Below w.heap.size w w' := by
  rcases Db.oerr_bad hy h0 with h1 | ⟨h1, h2, rfl⟩
  · exact offset_err hn h hC h1 h0
  · exact offset_range hn h hC h1 h2
theorem offset_good {D : Option Addr} {n c : Nat} {C : Nat → ByteArray} {R A : Nat → Int} {a : Int} {w : World} (hn : n ≤ 9223372036854775807) (h : Cells w D (n * 3) (Three C R A)) (hC : ∀ i, i < n → (C i).size ≤ maxLen) (hy : Db.oerr C R A n a = 0) :
    Calls Try.prog 18 #[.slice D n c, .int .i64 a] w fun e w' => ∃ D' c', e = .returned (.tuple #[.slice D' n c', .int .i64 (Db.left A a n), .int .i64 0]) ∧ Cells w' D' (n * 1) (Ints (Db.get A a)) ∧ Below w.heap.size w w' :=
  offset_ok hn h hC (Db.oerr_ok hy).1 (Db.oerr_ok hy).2.1 (Db.oerr_ok hy).2.2
theorem refOffset_bad {D : Option Addr} {n c : Nat} {C : Nat → ByteArray} {R A : Nat → Int} {y a : Int} {w : World} (hn : n ≤ 9223372036854775807) (h : Cells w D (n * 3) (Three C R A)) (hC : ∀ i, i < n → (C i).size ≤ maxLen) (hy : Db.oerr C R A n a = y) (h0 : y ≠ 0) :
    Calls Try.prog 23 #[.slice D n c, .int .i64 a] w fun e w' => e = .returned (.tuple #[.slice none 0 0, .int .i64 0, .int .i64 y]) ∧ Below w.heap.size w w' := by
  rcases Db.oerr_bad hy h0 with h1 | ⟨h1, h2, rfl⟩
  · exact refOffset_err hn h hC h1 h0
  · exact refOffset_range hn h hC h1 h2
theorem refOffset_good {D : Option Addr} {n c : Nat} {C : Nat → ByteArray} {R A : Nat → Int} {a : Int} {w : World} (hn : n ≤ 9223372036854775807) (h : Cells w D (n * 3) (Three C R A)) (hC : ∀ i, i < n → (C i).size ≤ maxLen) (hy : Db.oerr C R A n a = 0) :
    Calls Try.prog 23 #[.slice D n c, .int .i64 a] w fun e w' => ∃ D' c', e = .returned (.tuple #[.slice D' n c', .int .i64 (Db.left A a n), .int .i64 0]) ∧ Cells w' D' (n * 1) (Ints (Db.get A a)) ∧ Below w.heap.size w w' :=
  refOffset_ok hn h hC (Db.oerr_ok hy).1 (Db.oerr_ok hy).2.1 (Db.oerr_ok hy).2.2
theorem rerr_zero {C : Nat → ByteArray} {R A P : Nat → Int} {n m : Nat} (h : Db.rerr C R A n P m = 0) : Db.chk C R A n = 0 ∧ m = n ∧ Db.payOk A P n = true := by
  by_cases h1 : Db.chk C R A n = 0
  · by_cases h2 : m = n
    · refine ⟨h1, h2, ?_⟩
      subst h2
      cases hp : Db.payOk A P m with
      | true => rfl
      | false =>
        unfold Db.rerr at h
        rw [if_neg (by simp [h1]), if_neg (by simp), if_neg (by rw [hp]; exact Bool.noConfusion)] at h
        cases h
    · rw [Db.rerr_len h1 h2] at h; cases h
  · rw [Db.rerr_chk h1] at h; exact absurd h h1
end Go.Proofs.Ytjifpiaianmmbaa
