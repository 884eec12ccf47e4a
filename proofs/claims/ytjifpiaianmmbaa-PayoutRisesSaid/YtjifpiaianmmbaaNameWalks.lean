/- The walks of rulecheck.Name and of its reference. -/
import Derived.Test.YtjifpiaianmmbaaRows
import Derived.Test.YtjifpiaianmmbaaBase
import Derived.Test.YtjifpiaianmmbaaDebtPlain
set_option linter.unusedVariables false
namespace Go.Proofs.Ytjifpiaianmmbaa
open Go.RowKit

set_option maxHeartbeats 1000000 in
theorem name_any (s : ByteArray) (w : World) (hs : s.size ≤ maxLen) :
    Calls Try.prog 32 #[.string s] w fun e w' => e = .returned (.bool (Nm.name s)) ∧ w = w' := by
  unfold maxLen at hs
  by_cases h1 : s.size < 1
  · have Hn := Lib.hid (Nm.name_no (.inl h1))
    go_enter Try.func32, Try.ntmps32
    go_wp2
    go_ret
    exact ⟨ret_bool Hn.out.symm, rfl⟩
  by_cases h2 : 24 < s.size
  · have Hn := Lib.hid (Nm.name_no (s := s) (.inr (.inl h2)))
    go_enter Try.func32, Try.ntmps32
    go_wp2
    go_ret
    exact ⟨ret_bool Hn.out.symm, rfl⟩
  have h0 : 0 < s.size := by omega
  have e0 := Nm.byte_at h0
  by_cases h3 : Nm.byte s 0 < 97
  · have Hn := Lib.hid (Nm.name_no (s := s) (.inr (.inr (.inl h3))))
    go_enter Try.func32, Try.ntmps32
    go_wp2
    go_ret
    exact ⟨ret_bool Hn.out.symm, rfl⟩
  by_cases h4 : 122 < Nm.byte s 0
  · have Hn := Lib.hid (Nm.name_no (s := s) (.inr (.inr (.inr h4))))
    go_enter Try.func32, Try.ntmps32
    go_wp2
    go_ret
    exact ⟨ret_bool Hn.out.symm, rfl⟩
  go_enter Try.func32, Try.ntmps32
  go_wp2
  go_loop [25] (fun i => ∃ k : Nat, k ≤ s.size ∧ i = .int .i64 k ∧ Nm.allC s k = true) (fun i => s.size - (intOf i).toNat)
  case atStart => exact ⟨0, Nat.zero_le _, rfl, rfl⟩
  case round =>
    obtain ⟨k, hk, rfl, hall⟩ := hrel
    have Hall := Lib.hid hall
    clear hall
    by_cases hkn : k < s.size
    · have ek := Nm.byte_at hkn
      by_cases g : (97 ≤ Nm.byte s k ∧ Nm.byte s k ≤ 122) ∨ (48 ≤ Nm.byte s k ∧ Nm.byte s k ≤ 57) ∨ Nm.byte s k = 45
      · have Hok := Lib.hid (Nm.cOk_yes g)
        by_cases ga : 97 ≤ Nm.byte s k ∧ Nm.byte s k ≤ 122
        · obtain ⟨g1, g2⟩ := ga
          clear g
          go_wp2
          all_goals
            go_round
            case rel => exact ⟨k + 1, by omega, by go_num, by simp [Nm.allC, Hall.out, Hok.out]⟩
            case measure => simp [intOf]; omega
        · by_cases gb : 48 ≤ Nm.byte s k ∧ Nm.byte s k ≤ 57
          · obtain ⟨g1, g2⟩ := gb
            clear g ga
            go_wp2
            all_goals
              go_round
              case rel => exact ⟨k + 1, by omega, by go_num, by simp [Nm.allC, Hall.out, Hok.out]⟩
              case measure => simp [intOf]; omega
          · have g1 : Nm.byte s k ≤ 45 := by omega
            have g2 : 45 ≤ Nm.byte s k := by omega
            clear g ga gb
            go_wp2
            all_goals
              go_round
              case rel => exact ⟨k + 1, by omega, by go_num, by simp [Nm.allC, Hall.out, Hok.out]⟩
              case measure => simp [intOf]; omega
      · have Hno := Lib.hid (Nm.name_bad hkn (Nm.cOk_no g))
        have gn : ((Nm.byte s k : Int) != 45) = true := by simp; omega
        by_cases ga : 122 < Nm.byte s k
        · clear g
          go_wp2
          go_ret
          exact ⟨ret_bool Hno.out.symm, rfl⟩
        · by_cases gb : 57 < Nm.byte s k
          · have gc : Nm.byte s k < 97 := by omega
            clear g ga
            go_wp2
            go_ret
            exact ⟨ret_bool Hno.out.symm, rfl⟩
          · have gc : Nm.byte s k < 48 := by omega
            clear g ga gb
            go_wp2
            go_ret
            exact ⟨ret_bool Hno.out.symm, rfl⟩
    · obtain rfl : k = s.size := by omega
      go_wp2
      go_ret
      exact ⟨ret_bool (Nm.name_yes (by omega) (by omega) (by omega) (by omega) Hall.out).symm, rfl⟩

set_option maxHeartbeats 1000000 in
theorem refName_any (s : ByteArray) (w : World) (hs : s.size ≤ maxLen) :
    Calls Try.prog 30 #[.string s] w fun e w' => e = .returned (.bool (Nm.name s)) ∧ w = w' := by
  unfold maxLen at hs
  by_cases h1 : s.size < 1
  · have Hn := Lib.hid (Nm.name_no (.inl h1))
    go_enter Try.func30, Try.ntmps30
    go_wp2
    go_ret
    exact ⟨ret_bool Hn.out.symm, rfl⟩
  by_cases h2 : 24 < s.size
  · have Hn := Lib.hid (Nm.name_no (s := s) (.inr (.inl h2)))
    go_enter Try.func30, Try.ntmps30
    go_wp2
    go_ret
    exact ⟨ret_bool Hn.out.symm, rfl⟩
  have h0 : 0 < s.size := by omega
  have e0 := Nm.byte_at h0
  by_cases h3 : Nm.byte s 0 < 97
  · have Hn := Lib.hid (Nm.name_no (s := s) (.inr (.inr (.inl h3))))
    go_enter Try.func30, Try.ntmps30
    go_wp2
    go_ret
    exact ⟨ret_bool Hn.out.symm, rfl⟩
  by_cases h4 : 122 < Nm.byte s 0
  · have Hn := Lib.hid (Nm.name_no (s := s) (.inr (.inr (.inr h4))))
    go_enter Try.func30, Try.ntmps30
    go_wp2
    go_ret
    exact ⟨ret_bool Hn.out.symm, rfl⟩
  go_enter Try.func30, Try.ntmps30
  go_wp2
  go_loop [3] (fun i => ∃ k : Nat, k ≤ s.size ∧ i = .int .i64 k ∧ Nm.allC s k = true) (fun i => s.size - (intOf i).toNat)
  case atStart => exact ⟨0, Nat.zero_le _, rfl, rfl⟩
  case round =>
    obtain ⟨k, hk, rfl, hall⟩ := hrel
    have Hall := Lib.hid hall
    clear hall
    by_cases hkn : k < s.size
    · have ek := Nm.byte_at hkn
      by_cases g : (97 ≤ Nm.byte s k ∧ Nm.byte s k ≤ 122) ∨ (48 ≤ Nm.byte s k ∧ Nm.byte s k ≤ 57) ∨ Nm.byte s k = 45
      · have Hok := Lib.hid (Nm.cOk_yes g)
        by_cases ga : 97 ≤ Nm.byte s k ∧ Nm.byte s k ≤ 122
        · obtain ⟨g1, g2⟩ := ga
          clear g
          go_wp2
          all_goals
            go_round
            case rel => exact ⟨k + 1, by omega, by go_num, by simp [Nm.allC, Hall.out, Hok.out]⟩
            case measure => simp [intOf]; omega
        · by_cases gb : 48 ≤ Nm.byte s k ∧ Nm.byte s k ≤ 57
          · obtain ⟨g1, g2⟩ := gb
            clear g ga
            go_wp2
            all_goals
              go_round
              case rel => exact ⟨k + 1, by omega, by go_num, by simp [Nm.allC, Hall.out, Hok.out]⟩
              case measure => simp [intOf]; omega
          · have g1 : Nm.byte s k ≤ 45 := by omega
            have g2 : 45 ≤ Nm.byte s k := by omega
            clear g ga gb
            go_wp2
            all_goals
              go_round
              case rel => exact ⟨k + 1, by omega, by go_num, by simp [Nm.allC, Hall.out, Hok.out]⟩
              case measure => simp [intOf]; omega
      · have Hno := Lib.hid (Nm.name_bad hkn (Nm.cOk_no g))
        have gn : ((Nm.byte s k : Int) != 45) = true := by simp; omega
        by_cases ga : 122 < Nm.byte s k
        · have d1 : decide ((Nm.byte s k : Int) ≤ 122) = false := decide_eq_false (by omega)
          have d2 : decide ((Nm.byte s k : Int) ≤ 57) = false := decide_eq_false (by omega)
          clear g
          go_wp2
          go_ret
          exact ⟨ret_bool Hno.out.symm, rfl⟩
        · by_cases gb : 57 < Nm.byte s k
          · have gc : Nm.byte s k < 97 := by omega
            have d2 : decide ((Nm.byte s k : Int) ≤ 57) = false := decide_eq_false (by omega)
            clear g ga
            go_wp2
            go_ret
            exact ⟨ret_bool Hno.out.symm, rfl⟩
          · have gc : Nm.byte s k < 48 := by omega
            clear g ga gb
            go_wp2
            go_ret
            exact ⟨ret_bool Hno.out.symm, rfl⟩
    · obtain rfl : k = s.size := by omega
      go_wp2
      go_ret
      exact ⟨ret_bool (Nm.name_yes (by omega) (by omega) (by omega) (by omega) Hall.out).symm, rfl⟩
end Go.Proofs.Ytjifpiaianmmbaa
