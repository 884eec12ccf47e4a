/- The walk of the law RetailerTerms. -/
import Derived.Test.YtpalmlcepppifaaRetRef2
import Derived.Test.YtpalmlcepppifaaRetLawS
set_option linter.unusedVariables false
namespace Go.Proofs.Ytpalmlcepppifaa
open Go.RowKit

set_option maxHeartbeats 1000000 in
theorem retailerTerms_walk (W : World) {t : Rt.Tm} (_ : t = t) :
    Calls Try.prog 5 #[.agg (termsC t)] W fun e w' => e = .returned (.bool true) ∧ Below W.heap.size W w' := by
  unfold termsC
  by_cases ht : Rt.okT t
  · have HT := Lib.hid ht
    clear ht
    go_enter Try.func5, Try.ntmps5
    go_wp2_with fail
    refine (new_sit HT.out).mono ?_
    rintro e w1 ⟨g, rfl, hs⟩
    obtain ⟨q0, q1, q2, q3, q4⟩ := hs.cells
    have HS := Lib.hid hs
    clear hs
    go_wp2_with fail
    refine (refNew_ok HT.out).mono ?_
    rintro e w2 ⟨h, rfl, _, hb2⟩
    replace HS := Lib.hid (HS.out.keep hb2)
    clear hb2 q0 q1 q2 q3 q4
    go_wp2_with fail
    refine (open_at HS.out.obj HT.out Rt.okS_zero (set_zero HT.out)).mono ?_
    rintro e w3 ⟨rfl, hb3⟩
    replace HS := Lib.hid (HS.out.keep hb3)
    clear hb3
    go_wp2_with fail
    refine (awake49 _).mono ?_
    rintro e w9 ⟨rfl, hb9⟩
    have HB := Lib.hid (Below.on HS.out.below hb9)
    clear hb9
    go_wp2
    go_ret
    exact ⟨rfl, HB.out⟩
  · have HT := Lib.hid ht
    clear ht
    go_enter Try.func5, Try.ntmps5
    go_wp2_with fail
    refine (new_bad (t := t) HT.out).mono ?_
    rintro e w1 ⟨rfl, hb1⟩
    have hBx : Blk w1 W.heap.size 36 (termsC t) := (Blk.new W 36 (termsC t)).keep hb1
    have HB1 := Lib.hid (Below.on ((Below.refl _ _).alloc (Nat.le_refl _) _) hb1)
    obtain ⟨q0, q1, q2, q3, q4, _⟩ := set_at hBx
    clear hb1 hBx
    go_wp2_with fail
    refine (refNew_bad HT.out).mono ?_
    rintro e w2 ⟨rfl, hb2⟩
    replace HB1 := Lib.hid (Below.on HB1.out hb2)
    clear hb2
    go_wp2_with fail
    refine open_nil.mono ?_
    rintro e w3 ⟨rfl, hb3⟩
    replace HB1 := Lib.hid (Below.on HB1.out hb3)
    clear hb3
    unfold zeroC
    go_wp2_with fail
    refine (awake49 _).mono ?_
    rintro e w9 ⟨rfl, hb9⟩
    have HB := Lib.hid (Below.on HB1.out hb9)
    clear hb9
    go_wp2
    go_ret
    exact ⟨rfl, HB.out⟩
end Go.Proofs.Ytpalmlcepppifaa
