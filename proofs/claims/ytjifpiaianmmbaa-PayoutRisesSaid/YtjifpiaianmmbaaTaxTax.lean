/- The walks of tax.Tax and of its reference. -/
import Derived.Test.YtjifpiaianmmbaaTaxWalks
import Derived.Test.YtjifpiaianmmbaaTaxRefCheck
import Derived.Test.YtjifpiaianmmbaaTaxPart
namespace Go.Proofs.Ytjifpiaianmmbaa
open Go.RowKit

set_option maxHeartbeats 800000 in
theorem tax_any (A : Option Addr) (n c : Nat) (F R : Nat → Int) (a : Int) (w : World) (hn : n ≤ 9223372036854775807) (h : Cells w A (n * 2) (Two F R)) :
    Calls Try.prog 17 #[.slice A n c, .int .i64 a] w fun e w' => e = .returned (.tuple #[.int .i64 (Tx.val n F R a), .int .i64 (Tx.err n F R a)]) ∧ Below w.heap.size w w' := by
  by_cases hc : Tx.chk n F R = 0
  · by_cases ha : a < 0 ∨ 1000000000000 < a
    · have he := Tx.err_range hc ha
      have He := Lib.hid he
      have Ha := Lib.hid ha
      clear he ha
      go_enter Try.func17, Try.ntmps17
      go_wp2_with fail
      refine (check_any A n c F R _ hn h).mono ?_
      rintro e w1 ⟨rfl, hb1⟩
      go_wp2_with fail
      refine (valid_no _ _ Ha.out).mono ?_
      rintro e w' ⟨rfl, rfl⟩
      go_wp2
      go_ret2
      exact ⟨ret_int2 He.out.2.symm He.out.1.symm, hb1⟩
    · have h0 : 0 ≤ a := by omega
      have h1 : a ≤ 1000000000000 := by omega
      clear ha
      have hok := (Tx.of_chk hc).2
      have hn8 := (Tx.of_chk hc).1
      have He := Lib.hid (And.intro (Tx.err_of hc h0 h1) (Tx.val_ok hc h0 h1))
      have Hok := Lib.hid hok
      clear hok
      go_enter Try.func17, Try.ntmps17
      go_wp2_with fail
      refine (check_any A n c F R _ hn h).mono ?_
      rintro e w1 ⟨rfl, hb1⟩
      go_wp2_with fail
      refine (valid_yes _ _ h0 h1).mono ?_
      rintro e w' ⟨rfl, rfl⟩
      go_wp2
      go_loopw [7, 22] (fun s i wr => ∃ k : Nat, k ≤ n ∧ i = .int .i64 k ∧ s = .int .i64 (Tx.sum n F R a k) ∧ Below w.heap.size w wr) (fun _ i _ => n - (intOf i).toNat)
      case atStart => exact ⟨0, Nat.zero_le _, rfl, rfl, hb1⟩
      case round =>
        obtain ⟨k, hk, rfl, rfl, hbw⟩ := hrel
        have hs1 := Tx.sum_le Hok.out a k hk
        have hs2 := Tx.sum_bounds Hok.out h0
        by_cases hkn : k < n
        · obtain ⟨b, off, rfl, hlt, hF, hR⟩ := (h.below hbw).two hkn
          obtain ⟨g0, g1, _, g3, g4⟩ := Tx.ok_gives (Tx.ok_of Hok.out hkn)
          by_cases hst : a ≤ F k
          · have Hst := Lib.hid (Tx.sum_stop Hok.out hkn hst)
            go_wp2
            go_ret2
            exact ⟨ret_int2 (by rw [He.out.2, Hst.out]) He.out.1.symm, hbw⟩
          · have Hsu := Lib.hid (Tx.sum_succ (n := n) (R := R) (show F k < a by omega))
            have hs3 := Tx.sum_le Hok.out a (k + 1) hkn
            rw [Hsu.out] at hs3
            by_cases hk1 : k + 1 < n
            · obtain ⟨b', off', e', _, hF', _⟩ := (h.below hbw).two hk1
              injection e' with e'
              injection e' with e1 e2
              subst e1 e2
              have hnx := Tx.next Hok.out hk1
              by_cases hm : a ≤ F (k + 1)
              · rw [Tx.top_in hk1, show min a (F (k + 1)) = a by omega] at Hsu hs3
                go_wp2
                go_quiet ((go_at_call 26; exact quiet_left (part_ok _ _ _ (by omega) (by omega) (by omega) (by omega))))
                go_wp2
                go_roundw
                case rel => exact ⟨k + 1, by omega, by go_num, by rw [Hsu.out], below_drewN hbw _⟩
                case measure => simp [intOf]; omega
              · rw [Tx.top_in hk1, show min a (F (k + 1)) = F (k + 1) by omega] at Hsu hs3
                go_wp2
                go_quiet ((go_at_call 26; exact quiet_left (part_ok _ _ _ (by omega) (by omega) (by omega) (by omega))))
                go_wp2
                go_roundw
                case rel => exact ⟨k + 1, by omega, by go_num, by rw [Hsu.out], below_drewN hbw _⟩
                case measure => simp [intOf]; omega
            · rw [Tx.top_out hk1] at Hsu hs3
              go_wp2
              go_quiet ((go_at_call 26; exact quiet_left (part_ok _ _ _ (by omega) (by omega) (by omega) (by omega))))
              go_wp2
              go_roundw
              case rel => exact ⟨k + 1, by omega, by go_num, by rw [Hsu.out], below_drewN hbw _⟩
              case measure => simp [intOf]; omega
        · go_wp2
          go_ret2
          exact ⟨ret_int2 (by rw [He.out.2, show n = k by omega]) He.out.1.symm, hbw⟩
  · have he := Tx.err_chk (a := a) hc
    have hc0 : (Tx.chk n F R != 0) = true := by simpa using hc
    have He := Lib.hid he
    clear he
    go_enter Try.func17, Try.ntmps17
    go_wp2_with fail
    refine (check_any A n c F R _ hn h).mono ?_
    rintro e w1 ⟨rfl, hb1⟩
    go_wp2
    go_ret2
    exact ⟨ret_int2 He.out.2.symm He.out.1.symm, hb1⟩

set_option maxHeartbeats 800000 in
theorem refTax_any (A : Option Addr) (n c : Nat) (F R : Nat → Int) (a : Int) (w : World) (hn : n ≤ 9223372036854775807) (h : Cells w A (n * 2) (Two F R)) :
    Calls Try.prog 22 #[.slice A n c, .int .i64 a] w fun e w' => e = .returned (.tuple #[.int .i64 (Tx.val n F R a), .int .i64 (Tx.err n F R a)]) ∧ Below w.heap.size w w' := by
  by_cases hc : Tx.chk n F R = 0
  · by_cases ha : a < 0 ∨ 1000000000000 < a
    · have he := Tx.err_range hc ha
      have He := Lib.hid he
      have Ha := Lib.hid ha
      clear he ha
      go_enter Try.func22, Try.ntmps22
      go_wp2_with fail
      refine (refCheck_any A n c F R _ hn h).mono ?_
      rintro e w1 ⟨rfl, hb1⟩
      go_wp2_with fail
      refine (refValid_no _ _ Ha.out).mono ?_
      rintro e w' ⟨rfl, rfl⟩
      go_wp2
      go_ret2
      exact ⟨ret_int2 He.out.2.symm He.out.1.symm, hb1⟩
    · have h0 : 0 ≤ a := by omega
      have h1 : a ≤ 1000000000000 := by omega
      clear ha
      have hok := (Tx.of_chk hc).2
      have hn8 := (Tx.of_chk hc).1
      have He := Lib.hid (And.intro (Tx.err_of hc h0 h1) (Tx.val_ok hc h0 h1))
      have Hok := Lib.hid hok
      clear hok
      go_enter Try.func22, Try.ntmps22
      go_wp2_with fail
      refine (refCheck_any A n c F R _ hn h).mono ?_
      rintro e w1 ⟨rfl, hb1⟩
      go_wp2_with fail
      refine (refValid_yes _ _ h0 h1).mono ?_
      rintro e w' ⟨rfl, rfl⟩
      go_wp2
      go_loopw [7, 8] (fun s i wr => ∃ k : Nat, k ≤ n ∧ i = .int .i64 k ∧ s = .int .i64 (Tx.sum n F R a k) ∧ Below w.heap.size w wr) (fun _ i _ => n - (intOf i).toNat)
      case atStart => exact ⟨0, Nat.zero_le _, rfl, rfl, hb1⟩
      case round =>
        obtain ⟨k, hk, rfl, rfl, hbw⟩ := hrel
        have hs1 := Tx.sum_le Hok.out a k hk
        have hs2 := Tx.sum_bounds Hok.out h0
        by_cases hkn : k < n
        · obtain ⟨b, off, rfl, hlt, hF, hR⟩ := (h.below hbw).two hkn
          obtain ⟨g0, g1, _, g3, g4⟩ := Tx.ok_gives (Tx.ok_of Hok.out hkn)
          by_cases hst : a ≤ F k
          · have Hst := Lib.hid (Tx.sum_skip (n := n) (R := R) hst)
            by_cases hk1 : k + 1 < n
            · obtain ⟨b', off', e', _, hF', _⟩ := (h.below hbw).two hk1
              injection e' with e'
              injection e' with e1 e2
              subst e1 e2
              have hnx := Tx.next Hok.out hk1
              have hm : a ≤ F (k + 1) := by omega
              go_wp2
              go_roundw
              case rel => exact ⟨k + 1, by omega, by go_num, by rw [Hst.out], hbw⟩
              case measure => simp [intOf]; omega
            · go_wp2
              go_roundw
              case rel => exact ⟨k + 1, by omega, by go_num, by rw [Hst.out], hbw⟩
              case measure => simp [intOf]; omega
          · have Hsu := Lib.hid (Tx.sum_succ (n := n) (R := R) (show F k < a by omega))
            have hs3 := Tx.sum_le Hok.out a (k + 1) hkn
            rw [Hsu.out] at hs3
            by_cases hk1 : k + 1 < n
            · obtain ⟨b', off', e', _, hF', _⟩ := (h.below hbw).two hk1
              injection e' with e'
              injection e' with e1 e2
              subst e1 e2
              have hnx := Tx.next Hok.out hk1
              by_cases hm : a ≤ F (k + 1)
              · rw [Tx.top_in hk1, show min a (F (k + 1)) = a by omega] at Hsu hs3
                go_wp2
                go_quiet ((go_at_call 31; exact quiet_left (refPart_ok _ _ _ (by omega) (by omega) (by omega) (by omega))))
                go_wp2
                go_roundw
                case rel => exact ⟨k + 1, by omega, by go_num, by rw [Hsu.out], below_drewN hbw _⟩
                case measure => simp [intOf]; omega
              · rw [Tx.top_in hk1, show min a (F (k + 1)) = F (k + 1) by omega] at Hsu hs3
                go_wp2
                go_quiet ((go_at_call 31; exact quiet_left (refPart_ok _ _ _ (by omega) (by omega) (by omega) (by omega))))
                go_wp2
                go_roundw
                case rel => exact ⟨k + 1, by omega, by go_num, by rw [Hsu.out], below_drewN hbw _⟩
                case measure => simp [intOf]; omega
            · rw [Tx.top_out hk1] at Hsu hs3
              go_wp2
              go_quiet ((go_at_call 31; exact quiet_left (refPart_ok _ _ _ (by omega) (by omega) (by omega) (by omega))))
              go_wp2
              go_roundw
              case rel => exact ⟨k + 1, by omega, by go_num, by rw [Hsu.out], below_drewN hbw _⟩
              case measure => simp [intOf]; omega
        · go_wp2
          go_ret2
          exact ⟨ret_int2 (by rw [He.out.2, show n = k by omega]) He.out.1.symm, hbw⟩
  · have he := Tx.err_chk (a := a) hc
    have hc0 : (Tx.chk n F R != 0) = true := by simpa using hc
    have He := Lib.hid he
    clear he
    go_enter Try.func22, Try.ntmps22
    go_wp2_with fail
    refine (refCheck_any A n c F R _ hn h).mono ?_
    rintro e w1 ⟨rfl, hb1⟩
    go_wp2
    go_ret2
    exact ⟨ret_int2 He.out.2.symm He.out.1.symm, hb1⟩
end Go.Proofs.Ytjifpiaianmmbaa
