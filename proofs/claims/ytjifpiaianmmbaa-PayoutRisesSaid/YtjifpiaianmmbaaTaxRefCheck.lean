/- The walk of the reference's Check of tax brackets. -/
import Derived.Test.YtjifpiaianmmbaaRows
import Derived.Test.YtjifpiaianmmbaaBase
import Derived.Test.YtjifpiaianmmbaaTaxPlain
namespace Go.Proofs.Ytjifpiaianmmbaa
open Go.RowKit


set_option maxHeartbeats 800000 in
theorem refCheck_any (A : Option Addr) (n c : Nat) (F R : Nat → Int) (w : World) (hn : n ≤ 9223372036854775807) (h : Cells w A (n * 2) (Two F R)) :
    Calls Try.prog 20 #[.slice A n c] w fun e w' => e = .returned (.int .i64 (Tx.chk n F R)) ∧ Below w.heap.size w w' := by
  by_cases hb : 8 < n
  · go_enter Try.func20, Try.ntmps20
    go_wp2
    go_ret
    exact ⟨ret_int (Tx.chk_big hb).symm, Below.refl _ _⟩
  · go_enter Try.func20, Try.ntmps20
    go_wp2
    go_loopw [3] (fun i wr => ∃ k : Nat, k ≤ n ∧ i = .int .i64 k ∧ Tx.allOk F R k = true ∧ Below w.heap.size w wr) (fun i _ => n - (intOf i).toNat)
    case atStart => exact ⟨0, Nat.zero_le _, rfl, rfl, Below.refl _ _⟩
    case round =>
      obtain ⟨k, hk, rfl, hall, hbw⟩ := hrel
      have Hall := Lib.hid hall
      clear hall
      by_cases hkn : k < n
      · obtain ⟨b, off, rfl, hlt, hF, hR⟩ := (h.below hbw).two hkn
        by_cases hok : Tx.ok F R k = true
        · obtain ⟨g0, g1, g2, g3, g4⟩ := Tx.ok_gives hok
          have Hok := Lib.hid hok
          clear hok
          by_cases hk0 : k = 0
          · clear g2
            have d1 : decide (F k < 0) = false := decide_eq_false (by omega)
            have d2 : decide (1000000000000 < F k) = false := decide_eq_false (by omega)
            have d5 : decide (0 < k) = false := decide_eq_false (by omega)
            have d3 : decide (R k < 0) = false := decide_eq_false (by omega)
            have d4 : decide (10000 < R k) = false := decide_eq_false (by omega)
            clear hk0
            go_wp2
            go_quiet (fail)
            go_wp2
            go_roundw
            case rel => exact ⟨k + 1, by omega, by go_num, by simp [Tx.allOk, Hok.out, Hall.out], below_drewN hbw _⟩
            case measure => simp [intOf]; omega
          · have g5 : F (k - 1) < F k := by omega
            clear g2
            obtain ⟨b', off', e', _, hF', _⟩ := (h.below hbw).two (k := k - 1) (by omega)
            injection e' with e'
            injection e' with e1 e2
            subst e1 e2
            have d1 : decide (F k < 0) = false := decide_eq_false (by omega)
            have d2 : decide (1000000000000 < F k) = false := decide_eq_false (by omega)
            have d5 : decide (0 < k) = true := decide_eq_true (by omega)
            have d6 : decide (F k ≤ F (k - 1)) = false := decide_eq_false (by omega)
            have d3 : decide (R k < 0) = false := decide_eq_false (by omega)
            have d4 : decide (10000 < R k) = false := decide_eq_false (by omega)
            go_wp2
            go_quiet (fail)
            go_wp2
            go_roundw
            case rel => exact ⟨k + 1, by omega, by go_num, by simp [Tx.allOk, Hok.out, Hall.out], below_drewN hbw _⟩
            case measure => simp [intOf]; omega
        · have hno : Tx.ok F R k = false := by simpa using hok
          have Hno := Lib.hid hno
          clear hno hok
          by_cases c0 : F k < 0
          · have d1 : decide (F k < 0) = true := decide_eq_true (by omega)
            go_wp2
            go_quiet (fail)
            go_wp2
            go_ret
            exact ⟨ret_int (Tx.chk_no hb hkn Hno.out).symm, below_drewN hbw _⟩
          by_cases c1 : 1000000000000 < F k
          · have d1 : decide (F k < 0) = false := decide_eq_false (by omega)
            have d2 : decide (1000000000000 < F k) = true := decide_eq_true (by omega)
            go_wp2
            go_quiet (fail)
            go_wp2
            go_ret
            exact ⟨ret_int (Tx.chk_no hb hkn Hno.out).symm, below_drewN hbw _⟩
          have hs := Tx.no_split Hno.out (by omega) (by omega)
          by_cases hk0 : k = 0
          · by_cases c3 : R k < 0
            · have d1 : decide (F k < 0) = false := decide_eq_false (by omega)
              have d2 : decide (1000000000000 < F k) = false := decide_eq_false (by omega)
              have d5 : decide (0 < k) = false := decide_eq_false (by omega)
              have d3 : decide (R k < 0) = true := decide_eq_true (by omega)
              clear hk0
              clear hs
              go_wp2
              go_quiet (fail)
              go_wp2
              go_ret
              exact ⟨ret_int (Tx.chk_no hb hkn Hno.out).symm, below_drewN hbw _⟩
            · have d1 : decide (F k < 0) = false := decide_eq_false (by omega)
              have d2 : decide (1000000000000 < F k) = false := decide_eq_false (by omega)
              have d5 : decide (0 < k) = false := decide_eq_false (by omega)
              have d3 : decide (R k < 0) = false := decide_eq_false (by omega)
              have d4 : decide (10000 < R k) = true := decide_eq_true (by omega)
              clear hk0
              clear hs
              go_wp2
              go_quiet (fail)
              go_wp2
              go_ret
              exact ⟨ret_int (Tx.chk_no hb hkn Hno.out).symm, below_drewN hbw _⟩
          · obtain ⟨b', off', e', _, hF', _⟩ := (h.below hbw).two (k := k - 1) (by omega)
            injection e' with e'
            injection e' with e1 e2
            subst e1 e2
            by_cases c3 : F k ≤ F (k - 1)
            · have d1 : decide (F k < 0) = false := decide_eq_false (by omega)
              have d2 : decide (1000000000000 < F k) = false := decide_eq_false (by omega)
              have d5 : decide (0 < k) = true := decide_eq_true (by omega)
              have d6 : decide (F k ≤ F (k - 1)) = true := decide_eq_true (by omega)
              clear hs
              go_wp2
              go_quiet (fail)
              go_wp2
              go_ret
              exact ⟨ret_int (Tx.chk_no hb hkn Hno.out).symm, below_drewN hbw _⟩
            · by_cases c6 : R k < 0
              · have d1 : decide (F k < 0) = false := decide_eq_false (by omega)
                have d2 : decide (1000000000000 < F k) = false := decide_eq_false (by omega)
                have d5 : decide (0 < k) = true := decide_eq_true (by omega)
                have d6 : decide (F k ≤ F (k - 1)) = false := decide_eq_false (by omega)
                have d3 : decide (R k < 0) = true := decide_eq_true (by omega)
                clear hs
                go_wp2
                go_quiet (fail)
                go_wp2
                go_ret
                exact ⟨ret_int (Tx.chk_no hb hkn Hno.out).symm, below_drewN hbw _⟩
              · have d1 : decide (F k < 0) = false := decide_eq_false (by omega)
                have d2 : decide (1000000000000 < F k) = false := decide_eq_false (by omega)
                have d5 : decide (0 < k) = true := decide_eq_true (by omega)
                have d6 : decide (F k ≤ F (k - 1)) = false := decide_eq_false (by omega)
                have d3 : decide (R k < 0) = false := decide_eq_false (by omega)
                have d4 : decide (10000 < R k) = true := decide_eq_true (by omega)
                clear hs
                go_wp2
                go_quiet (fail)
                go_wp2
                go_ret
                exact ⟨ret_int (Tx.chk_no hb hkn Hno.out).symm, below_drewN hbw _⟩
      · go_wp2
        go_ret
        exact ⟨ret_int (Tx.chk_yes hb (by rw [show n = k by omega]; exact Hall.out)).symm, hbw⟩
end Go.Proofs.Ytjifpiaianmmbaa
