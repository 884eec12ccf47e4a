/- Refusals of nat.DivMod. -/
import Derived.Test.YtdcmpnjhomhhiaaGreatNatDivMod
import Derived.Test.YtdcmpnjhomhhiaaGreatG10
set_option linter.unusedVariables false
namespace Go.Proofs.YtdcmpnjhomhhiaaGreat
open Go.RowKit

theorem div_res {p : Program} {fn : Nat} {args : Array Value} {W : World} {q r : Nat} (h : Calls p fn args W fun e w' => DivRes W.heap.size w' e q r ∧ Below W.heap.size W w') :
    Calls p fn args W fun e w' => ∃ Dq cq Dr cr, e = .returned (.tuple #[.agg #[.slice Dq (L32 q) cq], .agg #[.slice Dr (L32 r) cr], .int .i64 0]) ∧ Cells w' Dq (L32 q) (Lm (d32 q)) ∧ Cells w' Dr (L32 r) (Lm (d32 r)) ∧ Below W.heap.size W w' := by
  refine h.mono ?_
  rintro e w1 ⟨⟨Dq, cq, Dr, cr, rfl, _, _, h1, h2, _, _⟩, hb⟩
  exact ⟨Dq, cq, Dr, cr, rfl, h1, h2, hb⟩
set_option maxHeartbeats 800000 in
set_option maxRecDepth 100000 in
theorem divmod_bad {D E : Option Addr} {n m c c' : Nat} {f g : Nat → Nat} {w : World} (hn : n ≤ 9223372036854775807) (hm : m ≤ 9223372036854775807) (hx : Cells w D n (Lm f)) (hy : Cells w E m (Lm g)) (hv : vd n f = false ∨ vd n f = true ∧ vd m g = false) :
    Calls Tryz.prog 54 #[natv D n c, natv E m c'] w fun e w' => e = .returned (.tuple #[.agg #[.slice none 0 0], .agg #[.slice none 0 0], .int .i64 2]) ∧ Below w.heap.size w w' := by
  unfold natv
  have BO0 := Lib.hid (Bq.new w (.slice D n c) (.slice E m c') (.slice none 0 0) (.slice none 0 0))
  rcases hv with hv | ⟨hv, hv2⟩
  · have HV := Lib.hid hv
    clear hv
    go_enter Tryz.func54, Tryz.ntmps54
    go_wp2_with fail
    refine (nvalid_is hn (hx.below BO0.out.below) HV.out).mono ?_
    rintro e w1 ⟨rfl, hb1⟩
    have BO1 := Lib.hid (BO0.out.on hb1)
    obtain ⟨q0, q1, q2, q3, f2, f3, hlt⟩ := BO1.out.facts
    clear hb1
    go_wp2
    refine bodyPost_ret (v := .tuple #[natv none 0 0, natv none 0 0, .int .i64 2]) (by unfold natv; simp [results, Tryz.results54, go_sem, q2, q3]) rfl ?_
    exact ⟨rfl, (BO1.out.below.setCell (p := ⟨w.heap.size + 1 + 1, 0, none⟩) (by simp; omega) _).setCell (p := ⟨w.heap.size + 1 + 1 + 1, 0, none⟩) (by simp; omega) _⟩
  · have HV := Lib.hid hv
    have HV2 := Lib.hid hv2
    clear hv hv2
    go_enter Tryz.func54, Tryz.ntmps54
    go_wp2_with fail
    refine (nvalid_is hn (hx.below BO0.out.below) HV.out).mono ?_
    rintro e w1 ⟨rfl, hb1⟩
    have BO1 := Lib.hid (BO0.out.on hb1)
    obtain ⟨q0, q1, q2, q3, f2, f3, hlt⟩ := BO1.out.facts
    clear hb1
    go_wp2_with fail
    refine (nvalid_is hm (hy.below BO1.out.below) HV2.out).mono ?_
    rintro e w2 ⟨rfl, hb2⟩
    clear q0 q1 q2 q3 f2 f3 hlt
    have BO2 := Lib.hid (BO1.out.on hb2)
    obtain ⟨q0, q1, q2, q3, f2, f3, hlt⟩ := BO2.out.facts
    clear hb2
    go_wp2
    refine bodyPost_ret (v := .tuple #[natv none 0 0, natv none 0 0, .int .i64 2]) (by unfold natv; simp [results, Tryz.results54, go_sem, q2, q3]) rfl ?_
    exact ⟨rfl, (BO2.out.below.setCell (p := ⟨w.heap.size + 1 + 1, 0, none⟩) (by simp; omega) _).setCell (p := ⟨w.heap.size + 1 + 1 + 1, 0, none⟩) (by simp; omega) _⟩
set_option maxHeartbeats 800000 in
set_option maxRecDepth 100000 in
theorem divmod_zero {D E : Option Addr} {n c c' : Nat} {f g : Nat → Nat} {w : World} (hn : n ≤ 9223372036854775807) (hx : Cells w D n (Lm f)) (hv : vd n f = true) :
    Calls Tryz.prog 54 #[natv D n c, natv E 0 c'] w fun e w' => e = .returned (.tuple #[.agg #[.slice none 0 0], .agg #[.slice none 0 0], .int .i64 10]) ∧ Below w.heap.size w w' := by
  unfold natv
  have BO0 := Lib.hid (Bq.new w (.slice D n c) (.slice E 0 c') (.slice none 0 0) (.slice none 0 0))
  have hm : 0 ≤ 9223372036854775807 := by omega
  have hy : Cells w E 0 (Lm fun _ => 0) := Cells.nil
  have HV := Lib.hid hv
  have HV2 := Lib.hid (show vd 0 (fun _ => 0) = true by rfl)
  clear hv
  go_enter Tryz.func54, Tryz.ntmps54
  go_wp2_with fail
  refine (nvalid_is hn (hx.below BO0.out.below) HV.out).mono ?_
  rintro e w1 ⟨rfl, hb1⟩
  have BO1 := Lib.hid (BO0.out.on hb1)
  obtain ⟨q0, q1, q2, q3, f2, f3, hlt⟩ := BO1.out.facts
  clear hb1
  go_wp2_with fail
  refine (nvalid_is hm (hy.below BO1.out.below) HV2.out).mono ?_
  rintro e w2 ⟨rfl, hb2⟩
  clear q0 q1 q2 q3 f2 f3 hlt
  have BO2 := Lib.hid (BO1.out.on hb2)
  obtain ⟨q0, q1, q2, q3, f2, f3, hlt⟩ := BO2.out.facts
  clear hb2
  go_wp2
  refine bodyPost_ret (v := .tuple #[natv none 0 0, natv none 0 0, .int .i64 10]) (by unfold natv; simp [results, Tryz.results54, go_sem, q2, q3]) rfl ?_
  exact ⟨rfl, (BO2.out.below.setCell (p := ⟨w.heap.size + 1 + 1, 0, none⟩) (by simp; omega) _).setCell (p := ⟨w.heap.size + 1 + 1 + 1, 0, none⟩) (by simp; omega) _⟩
end Go.Proofs.YtdcmpnjhomhhiaaGreat
