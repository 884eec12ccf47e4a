/- The law's own example: divided. -/
import Derived.Test.YthjbkadhgcjnaaaNatDivBad
import Derived.Test.YthjbkadhgcjnaaaNatWords
set_option linter.unusedVariables false
namespace Go.Proofs.Ythjbkadhgcjnaaa
open Go.RowKit

set_option maxHeartbeats 1000000 in
set_option maxRecDepth 100000 in
theorem divided_any (w : World) : Calls Try.prog 35 #[] w fun e w' => e = .returned (.bool true) ∧ Below w.heap.size w w' := by
  have hl3 := Lib.hid (L32_one (k := 3) (by omega) (by omega))
  have hl1 := Lib.hid (L32_one (k := 1) (by omega) (by omega))
  go_enter Try.func35, Try.ntmps35
  go_wp2_with fail
  refine (one_any 7 7 rfl (by omega) (by omega) _).mono ?_
  rintro e w1 ⟨D1, rfl, hc1, hb1⟩
  go_wp2_with fail
  refine (one_any 2 2 rfl (by omega) (by omega) _).mono ?_
  rintro e w2 ⟨D2, rfl, hc2, hb2⟩
  have HB2 := Lib.hid (Below.on hb1 hb2)
  have HC1 := Lib.hid (hc1.below hb2)
  have HC2 := Lib.hid hc2
  clear hb1 hb2 hc1 hc2
  go_wp2_with fail
  refine (div_res (q := 3) (r := 1) (divmod_any (x := 7) (y := 2) (by omega) (by omega) (L32_one (by omega) (by omega)).symm (L32_one (by omega) (by omega)).symm HC1.out HC2.out (by omega))).mono ?_
  rintro e w3 ⟨D3, c3, D4, c4, rfl, hc3, hc4, hb3⟩
  rw [hl3.out] at hc3 ⊢
  rw [hl1.out] at hc4 ⊢
  have HB3 := Lib.hid (Below.on HB2.out hb3)
  have HC3 := Lib.hid hc3
  have HC4 := Lib.hid hc4
  clear hb3 hc3 hc4
  have HB4 := Lib.hid (bl_alloc' (bl_alloc' HB3.out (.cells #[.slice D3 1 c3] 24)) (.cells #[.slice D4 1 c4] 24))
  have HC5 := Lib.hid ((HC3.out.alloc (.cells #[.slice D3 1 c3] 24)).alloc (.cells #[.slice D4 1 c4] 24))
  have HC6 := Lib.hid ((HC4.out.alloc (.cells #[.slice D3 1 c3] 24)).alloc (.cells #[.slice D4 1 c4] 24))
  have BX := Lib.hid (((Bxs.nil w3).cons (.slice D3 1 c3)).cons (.slice D4 1 c4))
  go_wp2_with fail
  refine (is_yes 3 3 rfl (by omega) HC5.out).mono ?_
  rintro e w5 ⟨rfl, hb5⟩
  have HB5 := Lib.hid (Below.on HB4.out hb5)
  have HC7 := Lib.hid (HC6.out.below hb5)
  have BX5 := Lib.hid (BX.out.keep hb5)
  obtain ⟨q1, l1⟩ := BX5.out.fact (b := w3.heap.size) (S := .slice D3 1 c3) (by simp)
  obtain ⟨q2, l2⟩ := BX5.out.fact (b := w3.heap.size + 1) (S := .slice D4 1 c4) (by simp)
  clear hb5
  go_wp2_with fail
  refine (is_yes 1 1 rfl (by omega) HC7.out).mono ?_
  rintro e w6 ⟨rfl, hb6⟩
  have HB6 := Lib.hid (Below.on HB5.out hb6)
  clear hb6 q1 q2 l1 l2
  go_wp2
  go_ret
  exact ⟨rfl, HB6.out⟩
end Go.Proofs.Ythjbkadhgcjnaaa
