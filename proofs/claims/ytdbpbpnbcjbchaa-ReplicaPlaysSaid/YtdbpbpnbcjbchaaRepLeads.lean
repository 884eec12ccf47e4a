/- Whether a node leads. -/
import Derived.Test.YtdbpbpnbcjbchaaRepRead
import Derived.BigQuiet
set_option linter.unusedVariables false
namespace Go.Proofs.Ytdbpbpnbcjbchaa
open Go.RowKit
namespace Rp
/-- Whether a node leads. -/
def ldr (d : Nd) : Bool := !d.down && (decide (0 < d.led) && decide (d.led = d.ep))
set_option maxHeartbeats 1000000 in
theorem leads_any {B : Nat} {w : World} {h n : Nat} {s : St} {lv : Nat → Value} {cv : Value} (c : Gp B w h n s lv cv) {i : Nat} (hi : i < 7) :
    Calls Try.prog 31 #[.pointer (some ⟨h, 1 + i * 5, none⟩)] w fun e w' => e = .returned (.bool (ldr (s.nd i))) ∧ ∃ k, w' = w.drewN k := by
  obtain ⟨h0, _, h2, h3, _⟩ := c.at_ hi
  clear c
  unfold ldr
  cases hd : (s.nd i).down <;> rw [hd] at h0
  · by_cases h4 : 0 < (s.nd i).led
    · by_cases h5 : (s.nd i).led = (s.nd i).ep
      · rw [h5] at h3 h4 ⊢
        have h6 : decide ((0 : Int) < ((s.nd i).ep : Int)) = true := by simp; omega
        go_enter Try.func31, Try.ntmps31
        go_wp2
        go_quiet (fail)
        go_wp2
        go_ret
        exact ⟨by simp [h4], _, rfl⟩
      · have h6 : decide ((0 : Int) < ((s.nd i).led : Int)) = true := by simp; omega
        have h7 : ((((s.nd i).led : Int)) == ((s.nd i).ep : Int)) = false := by
          simp; omega
        go_enter Try.func31, Try.ntmps31
        go_wp2
        go_quiet (fail)
        go_wp2
        go_ret
        exact ⟨by simp [h5], _, rfl⟩
    · have h6 : (s.nd i).led = 0 := by omega
      rw [h6] at h3
      go_enter Try.func31, Try.ntmps31
      go_wp2
      go_quiet (fail)
      go_wp2
      go_ret
      exact ⟨by simp [h6], _, rfl⟩
  · go_enter Try.func31, Try.ntmps31
    go_wp2
    go_quiet (fail)
    go_wp2
    go_ret
    exact ⟨rfl, _, rfl⟩
end Rp
end Go.Proofs.Ytdbpbpnbcjbchaa
