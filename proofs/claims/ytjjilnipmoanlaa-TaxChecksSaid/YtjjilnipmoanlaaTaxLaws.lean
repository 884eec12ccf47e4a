/- The walks of the laws on taxes: each returns true. -/
import Derived.Test.YtjjilnipmoanlaaTaxAwake
set_option linter.unusedVariables false
namespace Go.Proofs.Ytjjilnipmoanlaa
open Go.RowKit

theorem taxChecks_walk (W : World) {A : Option Addr} {n c : Nat} {F R : Nat → Int} (hn : n ≤ c) (hc : c ≤ maxLen) (h : Cells W A (n * 2) (Two F R)) (_hw : ∀ i, i < n → (Lit.int .i64 (F i)).wf = true ∧ (Lit.int .i64 (R i)).wf = true) :
    Calls Try.prog 3 #[.slice A n c] W fun e w' => e = .returned (.bool true) ∧ Below W.heap.size W w' := by
  unfold maxLen at hc
  by_cases h4 : 40 < n
  · go_enter Try.func3, Try.ntmps3
    go_wp2_with fail
    refine (awake45 _).mono ?_
    rintro e w1 ⟨rfl, hb1⟩
    go_wp2
    go_ret
    exact ⟨rfl, hb1⟩
  · go_enter Try.func3, Try.ntmps3
    go_wp2_with fail
    refine (check_any A n c F R _ (by omega) h).mono ?_
    rintro e w1 ⟨rfl, hb1⟩
    go_wp2_with fail
    refine (refCheck_any A n c F R _ (by omega) (h.below hb1)).mono ?_
    rintro e w2 ⟨rfl, hb2⟩
    have hb3 := Below.on hb1 hb2
    clear hb2 hb1
    go_wp2_with fail
    refine (awake45 _).mono ?_
    rintro e w4 ⟨rfl, hb4⟩
    have hb5 := Below.on hb3 hb4
    clear hb3 hb4
    go_wp2
    go_ret
    exact ⟨rfl, hb5⟩

theorem taxComputes_walk (W : World) {A : Option Addr} {n c : Nat} {F R : Nat → Int} (hn : n ≤ c) (hc : c ≤ maxLen) (h : Cells W A (n * 2) (Two F R)) (_hw : ∀ i, i < n → (Lit.int .i64 (F i)).wf = true ∧ (Lit.int .i64 (R i)).wf = true) (a : Int) (_wa : (Lit.int .i64 a).wf = true) :
    Calls Try.prog 4 #[.slice A n c, .int .i64 a] W fun e w' => e = .returned (.bool true) ∧ Below W.heap.size W w' := by
  unfold maxLen at hc
  by_cases h4 : 40 < n
  · go_enter Try.func4, Try.ntmps4
    go_wp2_with fail
    refine (awake45 _).mono ?_
    rintro e w1 ⟨rfl, hb1⟩
    go_wp2
    go_ret
    exact ⟨rfl, hb1⟩
  · go_enter Try.func4, Try.ntmps4
    go_wp2_with fail
    refine (tax_any A n c F R a _ (by omega) h).mono ?_
    rintro e w1 ⟨rfl, hb1⟩
    go_wp2_with fail
    refine (refTax_any A n c F R a _ (by omega) (h.below hb1)).mono ?_
    rintro e w2 ⟨rfl, hb2⟩
    have hb3 := Below.on hb1 hb2
    clear hb2 hb1
    go_wp2_with fail
    refine (awake45 _).mono ?_
    rintro e w4 ⟨rfl, hb4⟩
    have hb5 := Below.on hb3 hb4
    clear hb3 hb4
    go_wp2
    go_ret
    exact ⟨rfl, hb5⟩
end Go.Proofs.Ytjjilnipmoanlaa
