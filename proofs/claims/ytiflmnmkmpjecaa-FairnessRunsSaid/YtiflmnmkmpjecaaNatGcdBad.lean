/- Refusals of GCD and of the reference's. -/
import Derived.Test.YtiflmnmkmpjecaaNatBad
set_option linter.unusedVariables false
namespace Go.Proofs.Ytiflmnmkmpjecaa
open Go.RowKit

set_option maxHeartbeats 400000 in
theorem gcd_bad {D E : Option Addr} {n m c c' : Nat} {f g : Nat → Nat} {w : World} (hn : n ≤ 9223372036854775807) (hm : m ≤ 9223372036854775807) (hx : Cells w D n (Lm f)) (hy : Cells w E m (Lm g)) (hv : vd n f = false ∨ vd n f = true ∧ vd m g = false) :
    Calls Try.prog 82 #[natv D n c, natv E m c'] w fun e w' => e = .returned (.tuple #[natv none 0 0, .int .i64 2]) ∧ Below w.heap.size w w' := by
  unfold natv
  have BO0 := Lib.hid (Bo.new w (.slice D n c) (.slice E m c') (.slice none 0 0))
  rcases hv with hv | ⟨hv, hv2⟩
  · have HV := Lib.hid hv
    clear hv
    go_enter Try.func82, Try.ntmps82
    go_wp2_with fail
    refine (nvalid_is hn (hx.below BO0.out.below) HV.out).mono ?_
    rintro e w1 ⟨rfl, hb1⟩
    have BO1 := Lib.hid (BO0.out.on hb1)
    obtain ⟨q0, q1, q2, f2, hlt⟩ := BO1.out.facts
    clear hb1
    go_wp2
    refine bodyPost_ret (v := .tuple #[natv none 0 0, .int .i64 2]) (by unfold natv; simp [results, Try.results82, go_sem, q2]) rfl ?_
    exact ⟨rfl, BO1.out.below.setCell (p := ⟨w.heap.size + 1 + 1, 0, none⟩) (by simp; omega) _⟩
  · have HV := Lib.hid hv
    have HV2 := Lib.hid hv2
    clear hv hv2
    go_enter Try.func82, Try.ntmps82
    go_wp2_with fail
    refine (nvalid_is hn (hx.below BO0.out.below) HV.out).mono ?_
    rintro e w1 ⟨rfl, hb1⟩
    have BO1 := Lib.hid (BO0.out.on hb1)
    obtain ⟨q0, q1, q2, f2, hlt⟩ := BO1.out.facts
    clear hb1 BO0
    go_wp2_with fail
    refine (nvalid_is hm (hy.below BO1.out.below) HV2.out).mono ?_
    rintro e w2 ⟨rfl, hb2⟩
    clear q0 q1 q2 f2 hlt
    have BO2 := Lib.hid (BO1.out.on hb2)
    obtain ⟨q0, q1, q2, f2, hlt⟩ := BO2.out.facts
    clear hb2
    go_wp2
    refine bodyPost_ret (v := .tuple #[natv none 0 0, .int .i64 2]) (by unfold natv; simp [results, Try.results82, go_sem, q2]) rfl ?_
    exact ⟨rfl, BO2.out.below.setCell (p := ⟨w.heap.size + 1 + 1, 0, none⟩) (by simp; omega) _⟩

set_option maxHeartbeats 400000 in
theorem refGCD_bad {D E : Option Addr} {n m c c' : Nat} {f g : Nat → Nat} {w : World} (hn : n ≤ 9223372036854775807) (hm : m ≤ 9223372036854775807) (hx : Cells w D n (Lm f)) (hy : Cells w E m (Lm g)) (hv : vd n f = false ∨ vd n f = true ∧ vd m g = false) :
    Calls Try.prog 75 #[natv D n c, natv E m c'] w fun e w' => e = .returned (.tuple #[natv none 0 0, .int .i64 2]) ∧ Below w.heap.size w w' := by
  unfold natv
  have BO0 := Lib.hid (Bo.new w (.slice D n c) (.slice E m c') (.slice none 0 0))
  rcases hv with hv | ⟨hv, hv2⟩
  · have HV := Lib.hid hv
    clear hv
    go_enter Try.func75, Try.ntmps75
    go_wp2_with fail
    refine (rvalid_is hn (hx.below BO0.out.below) HV.out).mono ?_
    rintro e w1 ⟨rfl, hb1⟩
    have BO1 := Lib.hid (BO0.out.on hb1)
    obtain ⟨q0, q1, q2, f2, hlt⟩ := BO1.out.facts
    clear hb1
    go_wp2
    refine bodyPost_ret (v := .tuple #[natv none 0 0, .int .i64 2]) (by unfold natv; simp [results, Try.results75, go_sem, q2]) rfl ?_
    exact ⟨rfl, BO1.out.below.setCell (p := ⟨w.heap.size + 1 + 1, 0, none⟩) (by simp; omega) _⟩
  · have HV := Lib.hid hv
    have HV2 := Lib.hid hv2
    clear hv hv2
    go_enter Try.func75, Try.ntmps75
    go_wp2_with fail
    refine (rvalid_is hn (hx.below BO0.out.below) HV.out).mono ?_
    rintro e w1 ⟨rfl, hb1⟩
    have BO1 := Lib.hid (BO0.out.on hb1)
    obtain ⟨q0, q1, q2, f2, hlt⟩ := BO1.out.facts
    clear hb1 BO0
    go_wp2_with fail
    refine (rvalid_is hm (hy.below BO1.out.below) HV2.out).mono ?_
    rintro e w2 ⟨rfl, hb2⟩
    clear q0 q1 q2 f2 hlt
    have BO2 := Lib.hid (BO1.out.on hb2)
    obtain ⟨q0, q1, q2, f2, hlt⟩ := BO2.out.facts
    clear hb2
    go_wp2
    refine bodyPost_ret (v := .tuple #[natv none 0 0, .int .i64 2]) (by unfold natv; simp [results, Try.results75, go_sem, q2]) rfl ?_
    exact ⟨rfl, BO2.out.below.setCell (p := ⟨w.heap.size + 1 + 1, 0, none⟩) (by simp; omega) _⟩

end Go.Proofs.Ytiflmnmkmpjecaa
