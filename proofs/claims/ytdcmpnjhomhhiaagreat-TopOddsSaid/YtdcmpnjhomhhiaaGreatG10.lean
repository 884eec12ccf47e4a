/- Several texts in one. -/
import Derived.Test.YtdcmpnjhomhhiaaGreatNatRSum
/- The walks of nat.Cmp and of the reference's Cmp. -/
set_option linter.unusedVariables false
namespace Go.Proofs.YtdcmpnjhomhhiaaGreat
open Go.RowKit

/-- The boxes of two numbers. -/
structure Bt (w w' : World) (S T : Value) : Prop where
  below : Below w.heap.size w w'
  b0 : Blk w' w.heap.size 34 #[S]
  b1 : Blk w' (w.heap.size + 1) 34 #[T]
theorem Bt.new (w : World) (S T : Value) : Bt w ((w.alloc (.cells #[S] 34)).alloc (.cells #[T] 34)) S T := by
  refine ⟨((Below.refl w.heap.size w).alloc (Nat.le_refl _) _).alloc (by simp) _, (Blk.new w _ _).alloc _, ?_⟩
  have := Blk.new (w.alloc (.cells #[S] 34)) 34 #[T]
  rwa [World.size_alloc] at this
theorem Bt.on {w w' w'' : World} {S T : Value} (h : Bt w w' S T) (k : Below w'.heap.size w' w'') : Bt w w'' S T :=
  ⟨Below.on h.below k, h.b0.keep k, h.b1.keep k⟩
theorem Bt.facts {w w' : World} {S T : Value} (h : Bt w w' S T) : w'.cell? ⟨w.heap.size, 0, none⟩ = some S ∧ w'.cell? ⟨w.heap.size + 1, 0, none⟩ = some T ∧ w.heap.size + 1 < w'.heap.size :=
  ⟨h.b0.cell 0, h.b1.cell 0, h.b1.lt⟩
theorem Bt.keep {w w' : World} {S T : Value} (h : Bt w w' S T) : w'.cell? ⟨w.heap.size, 0, none⟩ = some S ∧ w'.cell? ⟨w.heap.size + 1, 0, none⟩ = some T ∧ Bt w w' S T := ⟨h.facts.1, h.facts.2.1, h⟩

set_option maxHeartbeats 1000000 in
theorem ncmp_any {D E : Option Addr} {n m c c' x y : Nat} {w : World} (hn : n ≤ 64) (hm : m ≤ 64) (hnx : n = L32 x) (hmy : m = L32 y) (hx : Cells w D n (Lm (d32 x))) (hy : Cells w E m (Lm (d32 y))) :
    Calls Tryz.prog 13 #[natv D n c, natv E m c'] w fun e w' => e = .returned (.int .i64 (cmpI x y)) ∧ Below w.heap.size w w' := by
  have hvx := Lib.hid (vd_true hn hnx)
  have hvy := Lib.hid (vd_true hm hmy)
  have HX := Lib.hid hnx
  have HY := Lib.hid hmy
  clear hnx hmy
  unfold natv
  have BO0 := Lib.hid (Bt.new w (.slice D n c) (.slice E m c'))
  go_enter Tryz.func13, Tryz.ntmps13
  go_wp2_with fail
  refine (nvalid_is (by omega) (hx.below BO0.out.below) hvx.out).mono ?_
  rintro e w1 ⟨rfl, hb1⟩
  have BO1 := Lib.hid (BO0.out.on hb1)
  obtain ⟨q0, q1, hlt⟩ := BO1.out.facts
  clear hb1 BO0
  go_wp2_with fail
  refine (nvalid_is (by omega) (hy.below BO1.out.below) hvy.out).mono ?_
  rintro e w2 ⟨rfl, hb1⟩
  clear q0 q1 hlt
  have BO2 := BO1.out.on hb1
  clear hb1 BO1
  have hx2 := hx.below BO2.below
  have hy2 := hy.below BO2.below
  have HB2 := BO2.below
  obtain ⟨q0, q1, hlt⟩ := BO2.facts
  go_wp2_with fail
  refine (compare_any (by omega) (by omega) HX.out HY.out hx2 hy2).mono ?_
  rintro e w3 ⟨rfl, hb3⟩
  have hb := Below.on HB2 hb3
  clear BO2 hx2 hy2 HB2 q0 q1 hlt hb3
  go_wp2
  go_ret
  exact ⟨rfl, hb⟩
theorem ncmp_bad {D E : Option Addr} {n m c c' : Nat} {f g : Nat → Nat} {w : World} (hn : n ≤ 9223372036854775807) (hm : m ≤ 9223372036854775807) (hx : Cells w D n (Lm f)) (hy : Cells w E m (Lm g)) (hv : vd n f = false ∨ vd n f = true ∧ vd m g = false) :
    Calls Tryz.prog 13 #[natv D n c, natv E m c'] w fun e w' => e = .returned (.int .i64 0) ∧ Below w.heap.size w w' := by
  unfold natv
  have BO0 := Lib.hid (Bt.new w (.slice D n c) (.slice E m c'))
  rcases hv with hv | ⟨hv, hv2⟩
  · have HV := Lib.hid hv
    clear hv
    go_enter Tryz.func13, Tryz.ntmps13
    go_wp2_with fail
    refine (nvalid_is hn (hx.below BO0.out.below) HV.out).mono ?_
    rintro e w1 ⟨rfl, hb1⟩
    have HB := Lib.hid (BO0.out.on hb1).below
    clear hb1
    go_wp2
    go_ret
    exact ⟨rfl, HB.out⟩
  · have HV := Lib.hid hv
    have HV2 := Lib.hid hv2
    clear hv hv2
    go_enter Tryz.func13, Tryz.ntmps13
    go_wp2_with fail
    refine (nvalid_is hn (hx.below BO0.out.below) HV.out).mono ?_
    rintro e w1 ⟨rfl, hb1⟩
    have BO1 := Lib.hid (BO0.out.on hb1)
    obtain ⟨q0, q1, hlt⟩ := BO1.out.facts
    clear hb1
    go_wp2_with fail
    refine (nvalid_is hm (hy.below BO1.out.below) HV2.out).mono ?_
    rintro e w2 ⟨rfl, hb2⟩
    have HB := Lib.hid (BO1.out.on hb2).below
    clear hb2
    go_wp2
    go_ret
    exact ⟨rfl, HB.out⟩
end Go.Proofs.YtdcmpnjhomhhiaaGreat

/- Sums, differences and products of numbers of which one is not valid, or of which the first is less. -/
set_option linter.unusedVariables false
namespace Go.Proofs.YtdcmpnjhomhhiaaGreat
open Go.RowKit


set_option maxHeartbeats 400000 in
theorem add_bad {D E : Option Addr} {n m c c' : Nat} {f g : Nat → Nat} {w : World} (hn : n ≤ 9223372036854775807) (hm : m ≤ 9223372036854775807) (hx : Cells w D n (Lm f)) (hy : Cells w E m (Lm g)) (hv : vd n f = false ∨ vd n f = true ∧ vd m g = false) :
    Calls Tryz.prog 49 #[natv D n c, natv E m c'] w fun e w' => e = .returned (.tuple #[natv none 0 0, .int .i64 2]) ∧ Below w.heap.size w w' := by
  unfold natv
  have BO0 := Lib.hid (Bo.new w (.slice D n c) (.slice E m c') (.slice none 0 0))
  rcases hv with hv | ⟨hv, hv2⟩
  · have HV := Lib.hid hv
    clear hv
    go_enter Tryz.func49, Tryz.ntmps49
    go_wp2_with fail
    refine (nvalid_is hn (hx.below BO0.out.below) HV.out).mono ?_
    rintro e w1 ⟨rfl, hb1⟩
    have BO1 := Lib.hid (BO0.out.on hb1)
    obtain ⟨q0, q1, q2, f2, hlt⟩ := BO1.out.facts
    clear hb1
    go_wp2
    refine bodyPost_ret (v := .tuple #[natv none 0 0, .int .i64 2]) (by unfold natv; simp [results, Tryz.results49, go_sem, q2]) rfl ?_
    exact ⟨rfl, BO1.out.below.setCell (p := ⟨w.heap.size + 1 + 1, 0, none⟩) (by simp; omega) _⟩
  · have HV := Lib.hid hv
    have HV2 := Lib.hid hv2
    clear hv hv2
    go_enter Tryz.func49, Tryz.ntmps49
    go_wp2_with fail
    refine (nvalid_is hn (hx.below BO0.out.below) HV.out).mono ?_
    rintro e w1 ⟨rfl, hb1⟩
    have BO1 := Lib.hid (BO0.out.on hb1)
    obtain ⟨q0, q1, q2, f2, hlt⟩ := BO1.out.facts
    clear hb1 BO0
    go_wp2_with fail
    refine (nvalid_is hm (hy.below BO1.out.below) HV2.out).mono ?_
    rintro e w2 ⟨rfl, hb2⟩
    clear q0 q1 q2 f2 hlt
    have BO2 := Lib.hid (BO1.out.on hb2)
    obtain ⟨q0, q1, q2, f2, hlt⟩ := BO2.out.facts
    clear hb2
    go_wp2
    refine bodyPost_ret (v := .tuple #[natv none 0 0, .int .i64 2]) (by unfold natv; simp [results, Tryz.results49, go_sem, q2]) rfl ?_
    exact ⟨rfl, BO2.out.below.setCell (p := ⟨w.heap.size + 1 + 1, 0, none⟩) (by simp; omega) _⟩

set_option maxHeartbeats 400000 in
theorem sub_bad {D E : Option Addr} {n m c c' : Nat} {f g : Nat → Nat} {w : World} (hn : n ≤ 9223372036854775807) (hm : m ≤ 9223372036854775807) (hx : Cells w D n (Lm f)) (hy : Cells w E m (Lm g)) (hv : vd n f = false ∨ vd n f = true ∧ vd m g = false) :
    Calls Tryz.prog 71 #[natv D n c, natv E m c'] w fun e w' => e = .returned (.tuple #[natv none 0 0, .int .i64 2]) ∧ Below w.heap.size w w' := by
  unfold natv
  have BO0 := Lib.hid (Bo.new w (.slice D n c) (.slice E m c') (.slice none 0 0))
  rcases hv with hv | ⟨hv, hv2⟩
  · have HV := Lib.hid hv
    clear hv
    go_enter Tryz.func71, Tryz.ntmps71
    go_wp2_with fail
    refine (nvalid_is hn (hx.below BO0.out.below) HV.out).mono ?_
    rintro e w1 ⟨rfl, hb1⟩
    have BO1 := Lib.hid (BO0.out.on hb1)
    obtain ⟨q0, q1, q2, f2, hlt⟩ := BO1.out.facts
    clear hb1
    go_wp2
    refine bodyPost_ret (v := .tuple #[natv none 0 0, .int .i64 2]) (by unfold natv; simp [results, Tryz.results71, go_sem, q2]) rfl ?_
    exact ⟨rfl, BO1.out.below.setCell (p := ⟨w.heap.size + 1 + 1, 0, none⟩) (by simp; omega) _⟩
  · have HV := Lib.hid hv
    have HV2 := Lib.hid hv2
    clear hv hv2
    go_enter Tryz.func71, Tryz.ntmps71
    go_wp2_with fail
    refine (nvalid_is hn (hx.below BO0.out.below) HV.out).mono ?_
    rintro e w1 ⟨rfl, hb1⟩
    have BO1 := Lib.hid (BO0.out.on hb1)
    obtain ⟨q0, q1, q2, f2, hlt⟩ := BO1.out.facts
    clear hb1 BO0
    go_wp2_with fail
    refine (nvalid_is hm (hy.below BO1.out.below) HV2.out).mono ?_
    rintro e w2 ⟨rfl, hb2⟩
    clear q0 q1 q2 f2 hlt
    have BO2 := Lib.hid (BO1.out.on hb2)
    obtain ⟨q0, q1, q2, f2, hlt⟩ := BO2.out.facts
    clear hb2
    go_wp2
    refine bodyPost_ret (v := .tuple #[natv none 0 0, .int .i64 2]) (by unfold natv; simp [results, Tryz.results71, go_sem, q2]) rfl ?_
    exact ⟨rfl, BO2.out.below.setCell (p := ⟨w.heap.size + 1 + 1, 0, none⟩) (by simp; omega) _⟩

set_option maxHeartbeats 400000 in
theorem mul_bad {D E : Option Addr} {n m c c' : Nat} {f g : Nat → Nat} {w : World} (hn : n ≤ 9223372036854775807) (hm : m ≤ 9223372036854775807) (hx : Cells w D n (Lm f)) (hy : Cells w E m (Lm g)) (hv : vd n f = false ∨ vd n f = true ∧ vd m g = false) :
    Calls Tryz.prog 11 #[natv D n c, natv E m c'] w fun e w' => e = .returned (.tuple #[natv none 0 0, .int .i64 2]) ∧ Below w.heap.size w w' := by
  unfold natv
  have BO0 := Lib.hid (Bo.new w (.slice D n c) (.slice E m c') (.slice none 0 0))
  rcases hv with hv | ⟨hv, hv2⟩
  · have HV := Lib.hid hv
    clear hv
    go_enter Tryz.func11, Tryz.ntmps11
    go_wp2_with fail
    refine (nvalid_is hn (hx.below BO0.out.below) HV.out).mono ?_
    rintro e w1 ⟨rfl, hb1⟩
    have BO1 := Lib.hid (BO0.out.on hb1)
    obtain ⟨q0, q1, q2, f2, hlt⟩ := BO1.out.facts
    clear hb1
    go_wp2
    refine bodyPost_ret (v := .tuple #[natv none 0 0, .int .i64 2]) (by unfold natv; simp [results, Tryz.results11, go_sem, q2]) rfl ?_
    exact ⟨rfl, BO1.out.below.setCell (p := ⟨w.heap.size + 1 + 1, 0, none⟩) (by simp; omega) _⟩
  · have HV := Lib.hid hv
    have HV2 := Lib.hid hv2
    clear hv hv2
    go_enter Tryz.func11, Tryz.ntmps11
    go_wp2_with fail
    refine (nvalid_is hn (hx.below BO0.out.below) HV.out).mono ?_
    rintro e w1 ⟨rfl, hb1⟩
    have BO1 := Lib.hid (BO0.out.on hb1)
    obtain ⟨q0, q1, q2, f2, hlt⟩ := BO1.out.facts
    clear hb1 BO0
    go_wp2_with fail
    refine (nvalid_is hm (hy.below BO1.out.below) HV2.out).mono ?_
    rintro e w2 ⟨rfl, hb2⟩
    clear q0 q1 q2 f2 hlt
    have BO2 := Lib.hid (BO1.out.on hb2)
    obtain ⟨q0, q1, q2, f2, hlt⟩ := BO2.out.facts
    clear hb2
    go_wp2
    refine bodyPost_ret (v := .tuple #[natv none 0 0, .int .i64 2]) (by unfold natv; simp [results, Tryz.results11, go_sem, q2]) rfl ?_
    exact ⟨rfl, BO2.out.below.setCell (p := ⟨w.heap.size + 1 + 1, 0, none⟩) (by simp; omega) _⟩

set_option maxHeartbeats 400000 in
theorem sub_lt {D E : Option Addr} {n m c c' x y : Nat} {w : World} (hn : n ≤ 64) (hm : m ≤ 64) (hnx : n = L32 x) (hmy : m = L32 y) (hx : Cells w D n (Lm (d32 x))) (hy : Cells w E m (Lm (d32 y))) (hxy : x < y) :
    Calls Tryz.prog 71 #[natv D n c, natv E m c'] w fun e w' => e = .returned (.tuple #[natv none 0 0, .int .i64 2]) ∧ Below w.heap.size w w' := by
  have hvx := Lib.hid (vd_true hn hnx)
  have hvy := Lib.hid (vd_true hm hmy)
  have HX := Lib.hid hnx
  have HY := Lib.hid hmy
  have HC := Lib.hid (cmp_ltI hxy)
  clear hnx hmy hxy
  unfold natv
  have BO0 := Lib.hid (Bo.new w (.slice D n c) (.slice E m c') (.slice none 0 0))
  go_enter Tryz.func71, Tryz.ntmps71
  go_wp2_with fail
  refine (nvalid_is (by omega) (hx.below BO0.out.below) hvx.out).mono ?_
  rintro e w1 ⟨rfl, hb1⟩
  have BO1 := Lib.hid (BO0.out.on hb1)
  obtain ⟨q0, q1, q2, f2, hlt⟩ := BO1.out.facts
  clear hb1 BO0
  go_wp2_with fail
  refine (nvalid_is (by omega) (hy.below BO1.out.below) hvy.out).mono ?_
  rintro e w2 ⟨rfl, hb1⟩
  clear q0 q1 q2 f2 hlt
  have BO2 := Lib.hid (BO1.out.on hb1)
  obtain ⟨q0, q1, q2, f2, hlt⟩ := BO2.out.facts
  clear hb1 BO1
  go_wp2_with fail
  refine (compare_any (by omega) (by omega) HX.out HY.out (hx.below BO2.out.below) (hy.below BO2.out.below)).mono ?_
  rintro e w3 ⟨rfl, hb1⟩
  rw [HC.out]
  clear q0 q1 q2 f2 hlt
  have BO3 := Lib.hid (BO2.out.on hb1)
  obtain ⟨q0, q1, q2, f2, hlt⟩ := BO3.out.facts
  clear hb1 BO2
  go_wp2
  refine bodyPost_ret (v := .tuple #[natv none 0 0, .int .i64 2]) (by unfold natv; simp [results, Tryz.results71, go_sem, q2]) rfl ?_
  exact ⟨rfl, BO3.out.below.setCell (p := ⟨w.heap.size + 1 + 1, 0, none⟩) (by simp; omega) _⟩

end Go.Proofs.YtdcmpnjhomhhiaaGreat

/- Refusals of GCD and of the reference's. -/
set_option linter.unusedVariables false
namespace Go.Proofs.YtdcmpnjhomhhiaaGreat
open Go.RowKit

end Go.Proofs.YtdcmpnjhomhhiaaGreat
