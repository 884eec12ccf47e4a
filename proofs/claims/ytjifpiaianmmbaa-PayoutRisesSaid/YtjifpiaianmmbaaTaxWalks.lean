/- The walks of money.Valid, money.Part, tax.Check, tax.Tax and of their references. -/
import Derived.Test.YtjifpiaianmmbaaRows
import Derived.Test.YtjifpiaianmmbaaBase
import Derived.Test.YtjifpiaianmmbaaTaxPlain
namespace Go.Proofs.Ytjifpiaianmmbaa
open Go.RowKit

theorem valid_any (m : Int) (w : World) : Calls Try.prog 16 #[.int .i64 m] w fun e w' => e = .returned (.bool (decide (0 ≤ m) && decide (m ≤ 1000000000000))) ∧ w = w' := by
  by_cases h0 : 0 ≤ m
  · go_enter Try.func16, Try.ntmps16
    go_wp2
    all_goals (go_ret; exact ⟨by simp [h0], rfl⟩)
  · go_enter Try.func16, Try.ntmps16
    go_wp2
    all_goals (go_ret; exact ⟨by simp; omega, rfl⟩)

theorem valid_yes (m : Int) (w : World) (h0 : 0 ≤ m) (h1 : m ≤ 1000000000000) : Calls Try.prog 16 #[.int .i64 m] w fun e w' => e = .returned (.bool true) ∧ w = w' :=
  (valid_any m w).mono fun _ _ ⟨he, hw⟩ => ⟨by rw [he]; exact ret_bool (by simp [h0, h1]), hw⟩
theorem valid_no (m : Int) (w : World) (h : m < 0 ∨ 1000000000000 < m) : Calls Try.prog 16 #[.int .i64 m] w fun e w' => e = .returned (.bool false) ∧ w = w' :=
  (valid_any m w).mono fun _ _ ⟨he, hw⟩ => ⟨by rw [he]; exact ret_bool (by simp; omega), hw⟩

theorem check_big (A : Option Addr) (n c : Nat) (w : World) (hn : n ≤ 9223372036854775807) (hb : 8 < n) :
    Calls Try.prog 25 #[.slice A n c] w fun e w' => e = .returned (.int .i64 3) ∧ w = w' := by
  go_enter Try.func25, Try.ntmps25
  go_wp2
  go_ret
  exact ⟨rfl, rfl⟩

set_option maxHeartbeats 400000 in
theorem check_any (A : Option Addr) (n c : Nat) (F R : Nat → Int) (w : World) (hn : n ≤ 9223372036854775807) (h : Cells w A (n * 2) (Two F R)) :
    Calls Try.prog 25 #[.slice A n c] w fun e w' => e = .returned (.int .i64 (Tx.chk n F R)) ∧ Below w.heap.size w w' := by
  by_cases hb : 8 < n
  · go_enter Try.func25, Try.ntmps25
    go_wp2
    go_ret
    exact ⟨ret_int (Tx.chk_big hb).symm, Below.refl _ _⟩
  · go_enter Try.func25, Try.ntmps25
    go_wp2
    go_loopw [10] (fun i wr => ∃ k : Nat, k ≤ n ∧ i = .int .i64 k ∧ Tx.allOk F R k = true ∧ Below w.heap.size w wr) (fun i _ => n - (intOf i).toNat)
    case atStart => exact ⟨0, Nat.zero_le _, rfl, rfl, Below.refl _ _⟩
    case round =>
      obtain ⟨k, hk, rfl, hall, hbw⟩ := hrel
      have Hall := Lib.hid hall
      clear hall
      by_cases hkn : k < n
      · obtain ⟨b, off, rfl, hlt, hF, hR⟩ := (h.below hbw).two hkn
        by_cases hok : Tx.ok F R k = true
        · obtain ⟨g0, g1, g2, g3, g4⟩ := Tx.ok_gives hok
          have Hok := Lib.hid hok
          clear hok
          by_cases hk0 : k = 0
          · clear g2
            have hd : decide (0 < k) = false := by simp; omega
            clear hk0
            go_wp2
            go_quiet (fail)
            go_wp2
            go_roundw
            case rel => exact ⟨k + 1, by omega, by go_num, by simp [Tx.allOk, Hok.out, Hall.out], below_drewN (hbw.alloc hbw.size _) _⟩
            case measure => simp [intOf]; omega
          · have g5 : F (k - 1) < F k := by omega
            clear g2
            obtain ⟨b', off', e', _, hF', _⟩ := (h.below hbw).two (k := k - 1) (by omega)
            injection e' with e'
            injection e' with e1 e2
            subst e1 e2
            have hd : decide (0 < k) = true := by simp; omega
            go_wp2
            go_quiet (fail)
            go_wp2
            go_roundw
            case rel => exact ⟨k + 1, by omega, by go_num, by simp [Tx.allOk, Hok.out, Hall.out], below_drewN (hbw.alloc hbw.size _) _⟩
            case measure => simp [intOf]; omega
        · have hno : Tx.ok F R k = false := by simpa using hok
          have Hno := Lib.hid hno
          clear hno hok
          by_cases c0 : F k < 0 ∨ 1000000000000 < F k
          · go_wp2
            all_goals
              go_ret
              exact ⟨ret_int (Tx.chk_no hb hkn Hno.out).symm, hbw.alloc hbw.size _⟩
          · have c1 : 0 ≤ F k := by omega
            have c2 : F k ≤ 1000000000000 := by omega
            clear c0
            have hs := Tx.no_split Hno.out c1 c2
            by_cases hk0 : k = 0
            · have hd : decide (0 < k) = false := by simp; omega
              have c3 : R k < 0 ∨ 10000 < R k := by omega
              clear hk0 hs
              go_wp2
              go_quiet (fail)
              go_wp2
              all_goals
                go_ret
                exact ⟨ret_int (Tx.chk_no hb hkn Hno.out).symm, below_drewN (hbw.alloc hbw.size _) _⟩
            · obtain ⟨b', off', e', _, hF', _⟩ := (h.below hbw).two (k := k - 1) (by omega)
              injection e' with e'
              injection e' with e1 e2
              subst e1 e2
              have hd : decide (0 < k) = true := by simp; omega
              by_cases c3 : F k ≤ F (k - 1)
              · clear hs
                go_wp2
                go_quiet (fail)
                go_wp2
                go_ret
                exact ⟨ret_int (Tx.chk_no hb hkn Hno.out).symm, below_drewN (hbw.alloc hbw.size _) _⟩
              · have c4 : R k < 0 ∨ 10000 < R k := by omega
                have c5 : F (k - 1) < F k := by omega
                clear c3 hs
                go_wp2
                go_quiet (fail)
                go_wp2
                all_goals
                  go_ret
                  exact ⟨ret_int (Tx.chk_no hb hkn Hno.out).symm, below_drewN (hbw.alloc hbw.size _) _⟩
      · go_wp2
        go_ret
        exact ⟨ret_int (Tx.chk_yes hb (by rw [show n = k by omega]; exact Hall.out)).symm, hbw⟩
end Go.Proofs.Ytjifpiaianmmbaa
