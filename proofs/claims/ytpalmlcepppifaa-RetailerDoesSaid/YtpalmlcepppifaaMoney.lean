/- The walk of money.Valid. -/
import Derived.Test.YtpalmlcepppifaaRows
import Derived.Test.YtpalmlcepppifaaBase
namespace Go.Proofs.Ytpalmlcepppifaa
open Go.RowKit

theorem valid_any (m : Int) (w : World) : Calls Try.prog 44 #[.int .i64 m] w fun e w' => e = .returned (.bool (decide (0 ≤ m) && decide (m ≤ 1000000000000))) ∧ w = w' := by
  by_cases h0 : 0 ≤ m
  · go_enter Try.func44, Try.ntmps44
    go_wp2
    all_goals (go_ret; exact ⟨by simp [h0], rfl⟩)
  · go_enter Try.func44, Try.ntmps44
    go_wp2
    all_goals (go_ret; exact ⟨by simp; omega, rfl⟩)

theorem valid_yes (m : Int) (w : World) (h0 : 0 ≤ m) (h1 : m ≤ 1000000000000) : Calls Try.prog 44 #[.int .i64 m] w fun e w' => e = .returned (.bool true) ∧ w = w' :=
  (valid_any m w).mono fun _ _ ⟨he, hw⟩ => ⟨by rw [he]; exact ret_bool (by simp [h0, h1]), hw⟩
theorem valid_no (m : Int) (w : World) (h : m < 0 ∨ 1000000000000 < m) : Calls Try.prog 44 #[.int .i64 m] w fun e w' => e = .returned (.bool false) ∧ w = w' :=
  (valid_any m w).mono fun _ _ ⟨he, hw⟩ => ⟨by rw [he]; exact ret_bool (by simp; omega), hw⟩
end Go.Proofs.Ytpalmlcepppifaa
