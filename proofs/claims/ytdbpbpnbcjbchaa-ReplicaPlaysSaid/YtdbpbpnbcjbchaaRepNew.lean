/- The walk of New. -/
import Derived.Test.YtdbpbpnbcjbchaaRepDone
set_option linter.unusedVariables false
namespace Go.Proofs.Ytdbpbpnbcjbchaa
open Go.RowKit
namespace Rp
def st0 : St := ⟨fun _ => ⟨false, false, 0, 0, []⟩, []⟩
theorem start (w : World) {n : Nat} {cs : Array Value} (h1 : 1 ≤ n) (h7 : n ≤ 7) (hcs : cs = (row 37 (gcell n st0.nd (fun _ => .slice none 0 0) (.slice none 0 0))).toArray) :
    Gp w.heap.size (w.alloc (.cells cs 55)) w.heap.size n st0 (fun _ => .slice none 0 0) (.slice none 0 0) := by
  subst hcs
  exact ⟨Blk.new w _ _, fun i hi => World.ownsRow_nil _ _ _ _, World.ownsRow_nil _ _ _ _, fun i j _ _ _ => .inl rfl, Nat.le_refl _, h1, h7, fun i _ => rfl, fun i _ => Nat.zero_le _, fun i _ => ⟨Nat.zero_le _, Nat.zero_le _⟩⟩
/-- The object, whatever its logs lie in. -/
def Obj (B : Nat) (w : World) (h n : Nat) (s : St) : Prop := ∃ lv cv, Gp B w h n s lv cv
set_option maxHeartbeats 1000000 in
theorem new_ok (w : World) {n : Nat} (h1 : 1 ≤ n) (h7 : n ≤ 7) :
    Calls Try.prog 10 #[.int .i64 (n : Int)] w fun e w' => e = .returned (.tuple #[.pointer (some ⟨w.heap.size, 0, none⟩), .int .i64 0]) ∧ Obj w.heap.size w' w.heap.size n st0 ∧ Below w.heap.size w w' := by
  have HS := Lib.hid fun cs h => start w (cs := cs) h1 h7 h
  go_enter Try.func10, Try.ntmps10
  go_wp2
  go_ret2
  exact ⟨rfl, ⟨_, _, HS.out _ rfl⟩, (Below.refl _ _).alloc (Nat.le_refl _) _⟩
set_option maxHeartbeats 1000000 in
theorem new_bad (w : World) {x : Int} (hx : x < 1 ∨ 7 < x) :
    Calls Try.prog 10 #[.int .i64 x] w fun e w' => e = .returned (.tuple #[.pointer none, .int .i64 2]) ∧ w = w' := by
  rcases hx with hx | hx
  all_goals
    go_enter Try.func10, Try.ntmps10
    go_wp2
    go_ret2
    exact ⟨rfl, rfl⟩
end Rp
end Go.Proofs.Ytdbpbpnbcjbchaa
