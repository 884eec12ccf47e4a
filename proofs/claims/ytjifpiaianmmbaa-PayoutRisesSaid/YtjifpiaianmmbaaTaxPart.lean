/- The walks of money.Part and of the reference's Valid and Part. -/
import Derived.Test.YtjifpiaianmmbaaRows
import Derived.Test.YtjifpiaianmmbaaBase
namespace Go.Proofs.Ytjifpiaianmmbaa
open Go.RowKit

theorem part_ok (m bp : Int) (w : World) (h0 : 0 ≤ m) (h1 : m ≤ 1000000000000) (h2 : 0 ≤ bp) (h3 : bp ≤ 10000) :
    Calls Try.prog 26 #[.int .i64 m, .int .i64 bp] w fun e w' => e = .returned (.tuple #[.int .i64 (m * bp / 10000), .int .i64 0]) ∧ w = w' := by
  have h4 : m * bp ≤ 10000000000000000 := by
    have : m * bp ≤ 1000000000000 * 10000 := Int.mul_le_mul h1 h3 h2 (by omega)
    omega
  have h5 : 0 ≤ m * bp := Int.mul_nonneg h0 h2
  go_enter Try.func26, Try.ntmps26
  go_wp2
  go_ret2
  exact ⟨rfl, rfl⟩
theorem refValid_any (m : Int) (w : World) : Calls Try.prog 19 #[.int .i64 m] w fun e w' => e = .returned (.bool (decide (0 ≤ m) && decide (m ≤ 1000000000000))) ∧ w = w' := by
  by_cases h0 : 0 ≤ m
  · go_enter Try.func19, Try.ntmps19
    go_wp2
    all_goals (go_ret; exact ⟨by simp [h0], rfl⟩)
  · go_enter Try.func19, Try.ntmps19
    go_wp2
    all_goals (go_ret; exact ⟨by simp; omega, rfl⟩)
theorem refValid_yes (m : Int) (w : World) (h0 : 0 ≤ m) (h1 : m ≤ 1000000000000) : Calls Try.prog 19 #[.int .i64 m] w fun e w' => e = .returned (.bool true) ∧ w = w' :=
  (refValid_any m w).mono fun _ _ ⟨he, hw⟩ => ⟨by rw [he]; exact ret_bool (by simp [h0, h1]), hw⟩
theorem refValid_no (m : Int) (w : World) (h : m < 0 ∨ 1000000000000 < m) : Calls Try.prog 19 #[.int .i64 m] w fun e w' => e = .returned (.bool false) ∧ w = w' :=
  (refValid_any m w).mono fun _ _ ⟨he, hw⟩ => ⟨by rw [he]; exact ret_bool (by simp; omega), hw⟩
theorem refPart_ok (m bp : Int) (w : World) (h0 : 0 ≤ m) (h1 : m ≤ 1000000000000) (h2 : 0 ≤ bp) (h3 : bp ≤ 10000) :
    Calls Try.prog 31 #[.int .i64 m, .int .i64 bp] w fun e w' => e = .returned (.tuple #[.int .i64 (m * bp / 10000), .int .i64 0]) ∧ w = w' := by
  have h4 : m * bp ≤ 10000000000000000 := by
    have : m * bp ≤ 1000000000000 * 10000 := Int.mul_le_mul h1 h3 h2 (by omega)
    omega
  have h5 : 0 ≤ m * bp := Int.mul_nonneg h0 h2
  go_enter Try.func31, Try.ntmps31
  go_wp2
  go_ret2
  exact ⟨rfl, rfl⟩
end Go.Proofs.Ytjifpiaianmmbaa
