/- The walk of Epoch. -/
import Derived.Test.YtdbpbpnbcjbchaaRepRead
set_option linter.unusedVariables false
namespace Go.Proofs.Ytdbpbpnbcjbchaa
open Go.RowKit
namespace Rp
set_option maxHeartbeats 1000000 in
theorem epoch_ok {B : Nat} {w : World} {h n : Nat} {s : St} {lv : Nat → Value} {cv : Value} (c : Gp B w h n s lv cv) {x : Int} {i : Nat} (hx : x = (i : Int)) (hi : i < n) :
    Calls Try.prog 20 #[.pointer (some ⟨h, 0, none⟩), .int .i64 x] w fun e w' => e = .returned (.int .i64 ((s.nd i).ep : Int)) ∧ w = w' := by
  have hn7 := c.n7
  obtain ⟨_, _, h2, _⟩ := c.at_ (i := i) (by omega)
  subst hx
  have HC := Lib.hid c
  clear c
  go_enter Try.func20, Try.ntmps20
  go_wp2_with fail
  refine (find_ok HC.out rfl hi).mono ?_
  rintro e w1 ⟨rfl, rfl⟩
  go_wp2
  go_ret
  exact ⟨rfl, rfl⟩
set_option maxHeartbeats 1000000 in
theorem epoch_bad {B : Nat} {w : World} {h n : Nat} {s : St} {lv : Nat → Value} {cv : Value} (c : Gp B w h n s lv cv) {x : Int} (hx : x < 0 ∨ (n : Int) ≤ x) :
    Calls Try.prog 20 #[.pointer (some ⟨h, 0, none⟩), .int .i64 x] w fun e w' => e = .returned (.int .i64 0) ∧ w = w' := by
  have HC := Lib.hid c
  clear c
  go_enter Try.func20, Try.ntmps20
  go_wp2_with fail
  refine (find_bad HC.out hx).mono ?_
  rintro e w1 ⟨rfl, rfl⟩
  go_wp2
  go_ret
  exact ⟨rfl, rfl⟩
end Rp
end Go.Proofs.Ytdbpbpnbcjbchaa
