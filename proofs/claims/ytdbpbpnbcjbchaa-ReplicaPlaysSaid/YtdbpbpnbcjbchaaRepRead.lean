/- The walks that find a node and read it. -/
import Derived.Test.YtdbpbpnbcjbchaaRepObj
set_option linter.unusedVariables false
namespace Go.Proofs.Ytdbpbpnbcjbchaa
open Go.RowKit
namespace Rp
set_option maxHeartbeats 1000000 in
theorem find_ok {B : Nat} {w : World} {h n : Nat} {s : St} {lv : Nat → Value} {cv : Value} (c : Gp B w h n s lv cv) {x : Int} {i : Nat} (hx : x = (i : Int)) (hi : i < n) :
    Calls Try.prog 27 #[.pointer (some ⟨h, 0, none⟩), .int .i64 x] w fun e w' => e = .returned (.tuple #[.pointer (some ⟨h, 1 + i * 5, none⟩), .int .i64 0]) ∧ w = w' := by
  have hn7 := c.n7
  obtain ⟨_, _, _, _, _, hc, _⟩ := c.at_ (i := 0) (by omega)
  clear c
  subst hx
  go_enter Try.func27, Try.ntmps27
  go_wp2
  go_ret2
  exact ⟨rfl, rfl⟩
set_option maxHeartbeats 1000000 in
theorem find_bad {B : Nat} {w : World} {h n : Nat} {s : St} {lv : Nat → Value} {cv : Value} (c : Gp B w h n s lv cv) {x : Int} (hx : x < 0 ∨ (n : Int) ≤ x) :
    Calls Try.prog 27 #[.pointer (some ⟨h, 0, none⟩), .int .i64 x] w fun e w' => e = .returned (.tuple #[.pointer none, .int .i64 2]) ∧ w = w' := by
  have hn7 := c.n7
  obtain ⟨_, _, _, _, _, hc, _⟩ := c.at_ (i := 0) (by omega)
  clear c
  rcases hx with hx | hx
  all_goals
    go_enter Try.func27, Try.ntmps27
    go_wp2
    go_ret2
    exact ⟨rfl, rfl⟩
/-- Whether a node is reached. -/
def up (d : Nd) : Bool := !d.down && !d.cut
set_option maxHeartbeats 1000000 in
theorem reach_any {B : Nat} {w : World} {h n : Nat} {s : St} {lv : Nat → Value} {cv : Value} (c : Gp B w h n s lv cv) {i : Nat} (hi : i < 7) :
    Calls Try.prog 28 #[.pointer (some ⟨h, 1 + i * 5, none⟩)] w fun e w' => e = .returned (.bool (up (s.nd i))) ∧ w = w' := by
  obtain ⟨h0, h1, _⟩ := c.at_ hi
  clear c
  unfold up
  go_enter Try.func28, Try.ntmps28
  cases hd : (s.nd i).down <;> cases hc : (s.nd i).cut <;> rw [hd] at h0 <;> rw [hc] at h1
  all_goals
    go_wp2
    go_ret
    exact ⟨rfl, rfl⟩
end Rp
end Go.Proofs.Ytdbpbpnbcjbchaa
