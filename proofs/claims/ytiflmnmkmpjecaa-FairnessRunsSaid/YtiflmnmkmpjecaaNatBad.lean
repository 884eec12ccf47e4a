/- Sums, differences and products of numbers of which one is not valid, or of which the first is less. -/
import Derived.Test.YtiflmnmkmpjecaaNatCmp
set_option linter.unusedVariables false
namespace Go.Proofs.Ytiflmnmkmpjecaa
open Go.RowKit


set_option maxHeartbeats 400000 in
theorem add_bad {D E : Option Addr} {n m c c' : Nat} {f g : Nat → Nat} {w : World} (hn : n ≤ 9223372036854775807) (hm : m ≤ 9223372036854775807) (hx : Cells w D n (Lm f)) (hy : Cells w E m (Lm g)) (hv : vd n f = false ∨ vd n f = true ∧ vd m g = false) :
    Calls Try.prog 56 #[natv D n c, natv E m c'] w fun e w' => e = .returned (.tuple #[natv none 0 0, .int .i64 2]) ∧ Below w.heap.size w w' := by
  unfold natv
  have BO0 := Lib.hid (Bo.new w (.slice D n c) (.slice E m c') (.slice none 0 0))
  rcases hv with hv | ⟨hv, hv2⟩
  · have HV := Lib.hid hv
    clear hv
    go_enter Try.func56, Try.ntmps56
    go_wp2_with fail
    refine (nvalid_is hn (hx.below BO0.out.below) HV.out).mono ?_
    rintro e w1 ⟨rfl, hb1⟩
    have BO1 := Lib.hid (BO0.out.on hb1)
    obtain ⟨q0, q1, q2, f2, hlt⟩ := BO1.out.facts
    clear hb1
    go_wp2
    refine bodyPost_ret (v := .tuple #[natv none 0 0, .int .i64 2]) (by unfold natv; simp [results, Try.results56, go_sem, q2]) rfl ?_
    exact ⟨rfl, BO1.out.below.setCell (p := ⟨w.heap.size + 1 + 1, 0, none⟩) (by simp; omega) _⟩
  · have HV := Lib.hid hv
    have HV2 := Lib.hid hv2
    clear hv hv2
    go_enter Try.func56, Try.ntmps56
    go_wp2_with fail
    refine (nvalid_is hn (hx.below BO0.out.below) HV.out).mono ?_
    rintro e w1 ⟨rfl, hb1⟩
    have BO1 := Lib.hid (BO0.out.on hb1)
    obtain ⟨q0, q1, q2, f2, hlt⟩ := BO1.out.facts
    clear hb1 BO0
    go_wp2_with fail
    refine (nvalid_is hm (hy.below BO1.out.below) HV2.out).mono ?_
    rintro e w2 ⟨rfl, hb2⟩
    clear q0 q1 q2 f2 hlt
    have BO2 := Lib.hid (BO1.out.on hb2)
    obtain ⟨q0, q1, q2, f2, hlt⟩ := BO2.out.facts
    clear hb2
    go_wp2
    refine bodyPost_ret (v := .tuple #[natv none 0 0, .int .i64 2]) (by unfold natv; simp [results, Try.results56, go_sem, q2]) rfl ?_
    exact ⟨rfl, BO2.out.below.setCell (p := ⟨w.heap.size + 1 + 1, 0, none⟩) (by simp; omega) _⟩

set_option maxHeartbeats 400000 in
theorem sub_bad {D E : Option Addr} {n m c c' : Nat} {f g : Nat → Nat} {w : World} (hn : n ≤ 9223372036854775807) (hm : m ≤ 9223372036854775807) (hx : Cells w D n (Lm f)) (hy : Cells w E m (Lm g)) (hv : vd n f = false ∨ vd n f = true ∧ vd m g = false) :
    Calls Try.prog 51 #[natv D n c, natv E m c'] w fun e w' => e = .returned (.tuple #[natv none 0 0, .int .i64 2]) ∧ Below w.heap.size w w' := by
  unfold natv
  have BO0 := Lib.hid (Bo.new w (.slice D n c) (.slice E m c') (.slice none 0 0))
  rcases hv with hv | ⟨hv, hv2⟩
  · have HV := Lib.hid hv
    clear hv
    go_enter Try.func51, Try.ntmps51
    go_wp2_with fail
    refine (nvalid_is hn (hx.below BO0.out.below) HV.out).mono ?_
    rintro e w1 ⟨rfl, hb1⟩
    have BO1 := Lib.hid (BO0.out.on hb1)
    obtain ⟨q0, q1, q2, f2, hlt⟩ := BO1.out.facts
    clear hb1
    go_wp2
    refine bodyPost_ret (v := .tuple #[natv none 0 0, .int .i64 2]) (by unfold natv; simp [results, Try.results51, go_sem, q2]) rfl ?_
    exact ⟨rfl, BO1.out.below.setCell (p := ⟨w.heap.size + 1 + 1, 0, none⟩) (by simp; omega) _⟩
  · have HV := Lib.hid hv
    have HV2 := Lib.hid hv2
    clear hv hv2
    go_enter Try.func51, Try.ntmps51
    go_wp2_with fail
    refine (nvalid_is hn (hx.below BO0.out.below) HV.out).mono ?_
    rintro e w1 ⟨rfl, hb1⟩
    have BO1 := Lib.hid (BO0.out.on hb1)
    obtain ⟨q0, q1, q2, f2, hlt⟩ := BO1.out.facts
    clear hb1 BO0
    go_wp2_with fail
    refine (nvalid_is hm (hy.below BO1.out.below) HV2.out).mono ?_
    rintro e w2 ⟨rfl, hb2⟩
    clear q0 q1 q2 f2 hlt
    have BO2 := Lib.hid (BO1.out.on hb2)
    obtain ⟨q0, q1, q2, f2, hlt⟩ := BO2.out.facts
    clear hb2
    go_wp2
    refine bodyPost_ret (v := .tuple #[natv none 0 0, .int .i64 2]) (by unfold natv; simp [results, Try.results51, go_sem, q2]) rfl ?_
    exact ⟨rfl, BO2.out.below.setCell (p := ⟨w.heap.size + 1 + 1, 0, none⟩) (by simp; omega) _⟩

set_option maxHeartbeats 400000 in
theorem mul_bad {D E : Option Addr} {n m c c' : Nat} {f g : Nat → Nat} {w : World} (hn : n ≤ 9223372036854775807) (hm : m ≤ 9223372036854775807) (hx : Cells w D n (Lm f)) (hy : Cells w E m (Lm g)) (hv : vd n f = false ∨ vd n f = true ∧ vd m g = false) :
    Calls Try.prog 84 #[natv D n c, natv E m c'] w fun e w' => e = .returned (.tuple #[natv none 0 0, .int .i64 2]) ∧ Below w.heap.size w w' := by
  unfold natv
  have BO0 := Lib.hid (Bo.new w (.slice D n c) (.slice E m c') (.slice none 0 0))
  rcases hv with hv | ⟨hv, hv2⟩
  · have HV := Lib.hid hv
    clear hv
    go_enter Try.func84, Try.ntmps84
    go_wp2_with fail
    refine (nvalid_is hn (hx.below BO0.out.below) HV.out).mono ?_
    rintro e w1 ⟨rfl, hb1⟩
    have BO1 := Lib.hid (BO0.out.on hb1)
    obtain ⟨q0, q1, q2, f2, hlt⟩ := BO1.out.facts
    clear hb1
    go_wp2
    refine bodyPost_ret (v := .tuple #[natv none 0 0, .int .i64 2]) (by unfold natv; simp [results, Try.results84, go_sem, q2]) rfl ?_
    exact ⟨rfl, BO1.out.below.setCell (p := ⟨w.heap.size + 1 + 1, 0, none⟩) (by simp; omega) _⟩
  · have HV := Lib.hid hv
    have HV2 := Lib.hid hv2
    clear hv hv2
    go_enter Try.func84, Try.ntmps84
    go_wp2_with fail
    refine (nvalid_is hn (hx.below BO0.out.below) HV.out).mono ?_
    rintro e w1 ⟨rfl, hb1⟩
    have BO1 := Lib.hid (BO0.out.on hb1)
    obtain ⟨q0, q1, q2, f2, hlt⟩ := BO1.out.facts
    clear hb1 BO0
    go_wp2_with fail
    refine (nvalid_is hm (hy.below BO1.out.below) HV2.out).mono ?_
    rintro e w2 ⟨rfl, hb2⟩
    clear q0 q1 q2 f2 hlt
    have BO2 := Lib.hid (BO1.out.on hb2)
    obtain ⟨q0, q1, q2, f2, hlt⟩ := BO2.out.facts
    clear hb2
    go_wp2
    refine bodyPost_ret (v := .tuple #[natv none 0 0, .int .i64 2]) (by unfold natv; simp [results, Try.results84, go_sem, q2]) rfl ?_
    exact ⟨rfl, BO2.out.below.setCell (p := ⟨w.heap.size + 1 + 1, 0, none⟩) (by simp; omega) _⟩

set_option maxHeartbeats 400000 in
theorem refAdd_bad {D E : Option Addr} {n m c c' : Nat} {f g : Nat → Nat} {w : World} (hn : n ≤ 9223372036854775807) (hm : m ≤ 9223372036854775807) (hx : Cells w D n (Lm f)) (hy : Cells w E m (Lm g)) (hv : vd n f = false ∨ vd n f = true ∧ vd m g = false) :
    Calls Try.prog 46 #[natv D n c, natv E m c'] w fun e w' => e = .returned (.tuple #[natv none 0 0, .int .i64 2]) ∧ Below w.heap.size w w' := by
  unfold natv
  have BO0 := Lib.hid (Bo.new w (.slice D n c) (.slice E m c') (.slice none 0 0))
  rcases hv with hv | ⟨hv, hv2⟩
  · have HV := Lib.hid hv
    clear hv
    go_enter Try.func46, Try.ntmps46
    go_wp2_with fail
    refine (rvalid_is hn (hx.below BO0.out.below) HV.out).mono ?_
    rintro e w1 ⟨rfl, hb1⟩
    have BO1 := Lib.hid (BO0.out.on hb1)
    obtain ⟨q0, q1, q2, f2, hlt⟩ := BO1.out.facts
    clear hb1
    go_wp2
    refine bodyPost_ret (v := .tuple #[natv none 0 0, .int .i64 2]) (by unfold natv; simp [results, Try.results46, go_sem, q2]) rfl ?_
    exact ⟨rfl, BO1.out.below.setCell (p := ⟨w.heap.size + 1 + 1, 0, none⟩) (by simp; omega) _⟩
  · have HV := Lib.hid hv
    have HV2 := Lib.hid hv2
    clear hv hv2
    go_enter Try.func46, Try.ntmps46
    go_wp2_with fail
    refine (rvalid_is hn (hx.below BO0.out.below) HV.out).mono ?_
    rintro e w1 ⟨rfl, hb1⟩
    have BO1 := Lib.hid (BO0.out.on hb1)
    obtain ⟨q0, q1, q2, f2, hlt⟩ := BO1.out.facts
    clear hb1 BO0
    go_wp2_with fail
    refine (rvalid_is hm (hy.below BO1.out.below) HV2.out).mono ?_
    rintro e w2 ⟨rfl, hb2⟩
    clear q0 q1 q2 f2 hlt
    have BO2 := Lib.hid (BO1.out.on hb2)
    obtain ⟨q0, q1, q2, f2, hlt⟩ := BO2.out.facts
    clear hb2
    go_wp2
    refine bodyPost_ret (v := .tuple #[natv none 0 0, .int .i64 2]) (by unfold natv; simp [results, Try.results46, go_sem, q2]) rfl ?_
    exact ⟨rfl, BO2.out.below.setCell (p := ⟨w.heap.size + 1 + 1, 0, none⟩) (by simp; omega) _⟩

set_option maxHeartbeats 400000 in
theorem refSub_bad {D E : Option Addr} {n m c c' : Nat} {f g : Nat → Nat} {w : World} (hn : n ≤ 9223372036854775807) (hm : m ≤ 9223372036854775807) (hx : Cells w D n (Lm f)) (hy : Cells w E m (Lm g)) (hv : vd n f = false ∨ vd n f = true ∧ vd m g = false) :
    Calls Try.prog 60 #[natv D n c, natv E m c'] w fun e w' => e = .returned (.tuple #[natv none 0 0, .int .i64 2]) ∧ Below w.heap.size w w' := by
  unfold natv
  have BO0 := Lib.hid (Bo.new w (.slice D n c) (.slice E m c') (.slice none 0 0))
  rcases hv with hv | ⟨hv, hv2⟩
  · have HV := Lib.hid hv
    clear hv
    go_enter Try.func60, Try.ntmps60
    go_wp2_with fail
    refine (rvalid_is hn (hx.below BO0.out.below) HV.out).mono ?_
    rintro e w1 ⟨rfl, hb1⟩
    have BO1 := Lib.hid (BO0.out.on hb1)
    obtain ⟨q0, q1, q2, f2, hlt⟩ := BO1.out.facts
    clear hb1
    go_wp2
    refine bodyPost_ret (v := .tuple #[natv none 0 0, .int .i64 2]) (by unfold natv; simp [results, Try.results60, go_sem, q2]) rfl ?_
    exact ⟨rfl, BO1.out.below.setCell (p := ⟨w.heap.size + 1 + 1, 0, none⟩) (by simp; omega) _⟩
  · have HV := Lib.hid hv
    have HV2 := Lib.hid hv2
    clear hv hv2
    go_enter Try.func60, Try.ntmps60
    go_wp2_with fail
    refine (rvalid_is hn (hx.below BO0.out.below) HV.out).mono ?_
    rintro e w1 ⟨rfl, hb1⟩
    have BO1 := Lib.hid (BO0.out.on hb1)
    obtain ⟨q0, q1, q2, f2, hlt⟩ := BO1.out.facts
    clear hb1 BO0
    go_wp2_with fail
    refine (rvalid_is hm (hy.below BO1.out.below) HV2.out).mono ?_
    rintro e w2 ⟨rfl, hb2⟩
    clear q0 q1 q2 f2 hlt
    have BO2 := Lib.hid (BO1.out.on hb2)
    obtain ⟨q0, q1, q2, f2, hlt⟩ := BO2.out.facts
    clear hb2
    go_wp2
    refine bodyPost_ret (v := .tuple #[natv none 0 0, .int .i64 2]) (by unfold natv; simp [results, Try.results60, go_sem, q2]) rfl ?_
    exact ⟨rfl, BO2.out.below.setCell (p := ⟨w.heap.size + 1 + 1, 0, none⟩) (by simp; omega) _⟩

set_option maxHeartbeats 400000 in
theorem refMul_bad {D E : Option Addr} {n m c c' : Nat} {f g : Nat → Nat} {w : World} (hn : n ≤ 9223372036854775807) (hm : m ≤ 9223372036854775807) (hx : Cells w D n (Lm f)) (hy : Cells w E m (Lm g)) (hv : vd n f = false ∨ vd n f = true ∧ vd m g = false) :
    Calls Try.prog 74 #[natv D n c, natv E m c'] w fun e w' => e = .returned (.tuple #[natv none 0 0, .int .i64 2]) ∧ Below w.heap.size w w' := by
  unfold natv
  have BO0 := Lib.hid (Bo.new w (.slice D n c) (.slice E m c') (.slice none 0 0))
  rcases hv with hv | ⟨hv, hv2⟩
  · have HV := Lib.hid hv
    clear hv
    go_enter Try.func74, Try.ntmps74
    go_wp2_with fail
    refine (rvalid_is hn (hx.below BO0.out.below) HV.out).mono ?_
    rintro e w1 ⟨rfl, hb1⟩
    have BO1 := Lib.hid (BO0.out.on hb1)
    obtain ⟨q0, q1, q2, f2, hlt⟩ := BO1.out.facts
    clear hb1
    go_wp2
    refine bodyPost_ret (v := .tuple #[natv none 0 0, .int .i64 2]) (by unfold natv; simp [results, Try.results74, go_sem, q2]) rfl ?_
    exact ⟨rfl, BO1.out.below.setCell (p := ⟨w.heap.size + 1 + 1, 0, none⟩) (by simp; omega) _⟩
  · have HV := Lib.hid hv
    have HV2 := Lib.hid hv2
    clear hv hv2
    go_enter Try.func74, Try.ntmps74
    go_wp2_with fail
    refine (rvalid_is hn (hx.below BO0.out.below) HV.out).mono ?_
    rintro e w1 ⟨rfl, hb1⟩
    have BO1 := Lib.hid (BO0.out.on hb1)
    obtain ⟨q0, q1, q2, f2, hlt⟩ := BO1.out.facts
    clear hb1 BO0
    go_wp2_with fail
    refine (rvalid_is hm (hy.below BO1.out.below) HV2.out).mono ?_
    rintro e w2 ⟨rfl, hb2⟩
    clear q0 q1 q2 f2 hlt
    have BO2 := Lib.hid (BO1.out.on hb2)
    obtain ⟨q0, q1, q2, f2, hlt⟩ := BO2.out.facts
    clear hb2
    go_wp2
    refine bodyPost_ret (v := .tuple #[natv none 0 0, .int .i64 2]) (by unfold natv; simp [results, Try.results74, go_sem, q2]) rfl ?_
    exact ⟨rfl, BO2.out.below.setCell (p := ⟨w.heap.size + 1 + 1, 0, none⟩) (by simp; omega) _⟩

set_option maxHeartbeats 400000 in
theorem sub_lt {D E : Option Addr} {n m c c' x y : Nat} {w : World} (hn : n ≤ 64) (hm : m ≤ 64) (hnx : n = L32 x) (hmy : m = L32 y) (hx : Cells w D n (Lm (d32 x))) (hy : Cells w E m (Lm (d32 y))) (hxy : x < y) :
    Calls Try.prog 51 #[natv D n c, natv E m c'] w fun e w' => e = .returned (.tuple #[natv none 0 0, .int .i64 2]) ∧ Below w.heap.size w w' := by
  have hvx := Lib.hid (vd_true hn hnx)
  have hvy := Lib.hid (vd_true hm hmy)
  have HX := Lib.hid hnx
  have HY := Lib.hid hmy
  have HC := Lib.hid (cmp_ltI hxy)
  clear hnx hmy hxy
  unfold natv
  have BO0 := Lib.hid (Bo.new w (.slice D n c) (.slice E m c') (.slice none 0 0))
  go_enter Try.func51, Try.ntmps51
  go_wp2_with fail
  refine (nvalid_is (by omega) (hx.below BO0.out.below) hvx.out).mono ?_
  rintro e w1 ⟨rfl, hb1⟩
  have BO1 := Lib.hid (BO0.out.on hb1)
  obtain ⟨q0, q1, q2, f2, hlt⟩ := BO1.out.facts
  clear hb1 BO0
  go_wp2_with fail
  refine (nvalid_is (by omega) (hy.below BO1.out.below) hvy.out).mono ?_
  rintro e w2 ⟨rfl, hb1⟩
  clear q0 q1 q2 f2 hlt
  have BO2 := Lib.hid (BO1.out.on hb1)
  obtain ⟨q0, q1, q2, f2, hlt⟩ := BO2.out.facts
  clear hb1 BO1
  go_wp2_with fail
  refine (compare_any (by omega) (by omega) HX.out HY.out (hx.below BO2.out.below) (hy.below BO2.out.below)).mono ?_
  rintro e w3 ⟨rfl, hb1⟩
  rw [HC.out]
  clear q0 q1 q2 f2 hlt
  have BO3 := Lib.hid (BO2.out.on hb1)
  obtain ⟨q0, q1, q2, f2, hlt⟩ := BO3.out.facts
  clear hb1 BO2
  go_wp2
  refine bodyPost_ret (v := .tuple #[natv none 0 0, .int .i64 2]) (by unfold natv; simp [results, Try.results51, go_sem, q2]) rfl ?_
  exact ⟨rfl, BO3.out.below.setCell (p := ⟨w.heap.size + 1 + 1, 0, none⟩) (by simp; omega) _⟩

set_option maxHeartbeats 400000 in
theorem refSub_lt {D E : Option Addr} {n m c c' x y : Nat} {w : World} (hn : n ≤ 64) (hm : m ≤ 64) (hnx : n = L32 x) (hmy : m = L32 y) (hx : Cells w D n (Lm (d32 x))) (hy : Cells w E m (Lm (d32 y))) (hxy : x < y) :
    Calls Try.prog 60 #[natv D n c, natv E m c'] w fun e w' => e = .returned (.tuple #[natv none 0 0, .int .i64 2]) ∧ Below w.heap.size w w' := by
  have hvx := Lib.hid (vd_true hn hnx)
  have hvy := Lib.hid (vd_true hm hmy)
  have HX := Lib.hid hnx
  have HY := Lib.hid hmy
  have HC := Lib.hid (cmp_ltI hxy)
  clear hnx hmy hxy
  unfold natv
  have BO0 := Lib.hid (Bo.new w (.slice D n c) (.slice E m c') (.slice none 0 0))
  go_enter Try.func60, Try.ntmps60
  go_wp2_with fail
  refine (rvalid_is (by omega) (hx.below BO0.out.below) hvx.out).mono ?_
  rintro e w1 ⟨rfl, hb1⟩
  have BO1 := Lib.hid (BO0.out.on hb1)
  obtain ⟨q0, q1, q2, f2, hlt⟩ := BO1.out.facts
  clear hb1 BO0
  go_wp2_with fail
  refine (rvalid_is (by omega) (hy.below BO1.out.below) hvy.out).mono ?_
  rintro e w2 ⟨rfl, hb1⟩
  clear q0 q1 q2 f2 hlt
  have BO2 := Lib.hid (BO1.out.on hb1)
  obtain ⟨q0, q1, q2, f2, hlt⟩ := BO2.out.facts
  clear hb1 BO1
  go_wp2_with fail
  refine (rCmp_any (by omega) (by omega) HX.out HY.out (hx.below BO2.out.below) (hy.below BO2.out.below)).mono ?_
  rintro e w3 ⟨rfl, hb1⟩
  rw [HC.out]
  clear q0 q1 q2 f2 hlt
  have BO3 := Lib.hid (BO2.out.on hb1)
  obtain ⟨q0, q1, q2, f2, hlt⟩ := BO3.out.facts
  clear hb1 BO2
  go_wp2
  refine bodyPost_ret (v := .tuple #[natv none 0 0, .int .i64 2]) (by unfold natv; simp [results, Try.results60, go_sem, q2]) rfl ?_
  exact ⟨rfl, BO3.out.below.setCell (p := ⟨w.heap.size + 1 + 1, 0, none⟩) (by simp; omega) _⟩
end Go.Proofs.Ytiflmnmkmpjecaa
