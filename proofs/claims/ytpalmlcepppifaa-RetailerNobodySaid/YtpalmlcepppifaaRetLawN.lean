/- The walk of the law RetailerNobody. -/
import Derived.Test.YtpalmlcepppifaaRetAwake
set_option linter.unusedVariables false
namespace Go.Proofs.Ytpalmlcepppifaa
open Go.RowKit

set_option maxHeartbeats 1000000 in
theorem retailerNobody_walk (W : World) (n : Int) (wn : (Lit.int .i64 n).wf = true) :
    Calls Try.prog 12 #[.int .i64 n] W fun e w' => e = .returned (.bool true) ∧ Below W.heap.size W w' := by
  clear wn
  go_enter Try.func12, Try.ntmps12
  go_wp2_with fail
  refine sale_nil.mono ?_
  rintro e w1 ⟨rfl, rfl⟩
  go_wp2_with fail
  refine refund_nil.mono ?_
  rintro e w1 ⟨rfl, rfl⟩
  go_wp2_with fail
  refine cash_nil.mono ?_
  rintro e w1 ⟨rfl, rfl⟩
  go_wp2_with fail
  refine open_nil.mono ?_
  rintro e w1 ⟨rfl, hb⟩
  unfold zeroC
  go_wp2_with fail
  refine settle_nil.mono ?_
  rintro e w2 ⟨rfl, hb2⟩
  replace hb := Below.on hb hb2
  clear hb2
  unfold zeroC
  go_wp2_with fail
  refine (awake49 _).mono ?_
  rintro e w3 ⟨rfl, hb3⟩
  replace hb := Below.on hb hb3
  clear hb3
  go_wp2
  go_ret
  exact ⟨rfl, hb⟩
end Go.Proofs.Ytpalmlcepppifaa
