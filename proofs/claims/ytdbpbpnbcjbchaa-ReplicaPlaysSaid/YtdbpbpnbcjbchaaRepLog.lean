/- The walk of Log: the texts of a node's log. -/
import Derived.Test.YtdbpbpnbcjbchaaRepUpd
set_option linter.unusedVariables false
namespace Go.Proofs.Ytdbpbpnbcjbchaa
open Go.RowKit
namespace Rp
set_option maxHeartbeats 1000000 in
theorem log_ok {B : Nat} {w : World} {h n : Nat} {s : St} {lv : Nat → Value} {cv : Value} (c : Gp B w h n s lv cv) {i : Nat} (hi : i < n) :
    Calls Try.prog 21 #[.pointer (some ⟨h, 0, none⟩), .int .i64 (i : Int)] w fun e w' => ∃ v, e = .returned v ∧ w'.ownsRow w.heap.size 9 1 v (s.nd i).log.length (row ((s.nd i).log.length * 1) (Tx (s.nd i).log)) ∧ Below w.heap.size w w' := by
  have hn7 := c.n7
  obtain ⟨_, _, _, _, h4, _⟩ := c.at_ (i := i) (by omega)
  obtain ⟨A, cp, hlv, hcp, hA⟩ := c.log (i := i) (by omega)
  have hl := c.l i (by omega)
  rw [hlv] at h4
  have HC := Lib.hid c
  have HA := Lib.hid hA
  clear c hA hlv
  go_enter Try.func21, Try.ntmps21
  go_wp2_with fail
  refine (find_ok HC.out rfl hi).mono ?_
  rintro e w1 ⟨rfl, rfl⟩
  go_wp2_with fail
  refine (texts_any HA.out hl).mono ?_
  rintro e w2 ⟨v, rfl, hv, hb⟩
  have HV := Lib.hid hv
  have HB := Lib.hid hb
  clear hv hb
  go_wp2
  go_ret
  exact ⟨_, rfl, HV.out, HB.out⟩
set_option maxHeartbeats 1000000 in
theorem log_bad {B : Nat} {w : World} {h n : Nat} {s : St} {lv : Nat → Value} {cv : Value} (c : Gp B w h n s lv cv) {x : Int} (hx : x < 0 ∨ (n : Int) ≤ x) :
    Calls Try.prog 21 #[.pointer (some ⟨h, 0, none⟩), .int .i64 x] w fun e w' => e = .returned (.slice none 0 0) ∧ w = w' := by
  have HC := Lib.hid c
  clear c
  go_enter Try.func21, Try.ntmps21
  go_wp2_with fail
  refine (find_bad HC.out hx).mono ?_
  rintro e w1 ⟨rfl, rfl⟩
  go_wp2
  go_ret
  exact ⟨rfl, rfl⟩
end Rp
end Go.Proofs.Ytdbpbpnbcjbchaa
