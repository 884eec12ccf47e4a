/- The walk of frac.products. -/
import Derived.Test.YtiflmnmkmpjecaaFrValid
import Derived.Deep.RegionLaw
set_option linter.unusedVariables false
namespace Go.Proofs.Ytiflmnmkmpjecaa
open Go.RowKit
namespace Fr
/-- Two products, or an overflow. -/
def Two2 (B : Nat) (w' : World) (e : Ending) (p q : Nat) : Prop :=
  (L32 p ≤ 64 ∧ L32 q ≤ 64 ∧ ∃ D c E c', e = .returned (.tuple #[natv D (L32 p) c, natv E (L32 q) c', .int .i64 0]) ∧ L32 p ≤ c ∧ L32 q ≤ c' ∧ Cells w' D (L32 p) (Lm (d32 p)) ∧ Cells w' E (L32 q) (Lm (d32 q)) ∧ Fresh B D ∧ Fresh B E) ∨
  ((64 < L32 p ∨ 64 < L32 q) ∧ e = .returned (.tuple #[natv none 0 0, natv none 0 0, .int .i64 9]))
theorem bse {B : Nat} {w w' : World} (h : Below B w w') {b : Nat} (hb : B ≤ b) (i : Nat) (u : Value) : Below B w (w'.setCell ⟨b, i, none⟩ u) := h.setCell (p := ⟨b, i, none⟩) hb u
abbrev TN : TypeId := 32
theorem boxes6 (w : World) (S T U V : Value) : Bs w ((((((w.alloc (.cells #[S] TN)).alloc (.cells #[T] TN)).alloc (.cells #[U] TN)).alloc (.cells #[V] TN)).alloc (.cells #[.slice none 0 0] TN)).alloc (.cells #[.slice none 0 0] TN))
    [(w.heap.size + 1 + 1 + 1 + 1 + 1, TN, #[.slice none 0 0]), (w.heap.size + 1 + 1 + 1 + 1, TN, #[.slice none 0 0]), (w.heap.size + 1 + 1 + 1, TN, #[V]), (w.heap.size + 1 + 1, TN, #[U]), (w.heap.size + 1, TN, #[T]), (w.heap.size, TN, #[S])] := by
  have := ((((((Bs.nil w).alloc TN #[S]).alloc TN #[T]).alloc TN #[U]).alloc TN #[V]).alloc TN #[.slice none 0 0]).alloc TN #[.slice none 0 0]
  simp only [World.size_alloc] at this
  exact this
set_option maxHeartbeats 4000000 in
set_option maxRecDepth 100000 in
theorem products_any {D0 D1 D2 D3 : Option Addr} {n0 n1 n2 n3 c0 c1 c2 c3 x0 x1 x2 x3 : Nat} {w : World} (hn0 : n0 ≤ 64) (hn1 : n1 ≤ 64) (hn2 : n2 ≤ 64) (hn3 : n3 ≤ 64) (h0 : n0 = L32 x0) (h1 : n1 = L32 x1) (h2 : n2 = L32 x2) (h3 : n3 = L32 x3)
    (hx0 : Cells w D0 n0 (Lm (d32 x0))) (hx1 : Cells w D1 n1 (Lm (d32 x1))) (hx2 : Cells w D2 n2 (Lm (d32 x2))) (hx3 : Cells w D3 n3 (Lm (d32 x3))) :
    Calls Try.prog 71 #[natv D0 n0 c0, natv D1 n1 c1, natv D2 n2 c2, natv D3 n3 c3] w fun e w' => Two2 w.heap.size w' e (x0 * x1) (x2 * x3) ∧ Below w.heap.size w w' := by
  have H0 := Lib.hid h0
  have H1 := Lib.hid h1
  have H2 := Lib.hid h2
  have H3 := Lib.hid h3
  clear h0 h1 h2 h3
  have bs := boxes6 w (.slice D0 n0 c0) (.slice D1 n1 c1) (.slice D2 n2 c2) (.slice D3 n3 c3)
  obtain ⟨p, hp⟩ : ∃ p, p = x0 * x1 := ⟨_, rfl⟩
  obtain ⟨q, hq⟩ : ∃ q, q = x2 * x3 := ⟨_, rfl⟩
  have HP := Lib.hid hp
  have HQ := Lib.hid hq
  rw [← hp, ← hq]
  clear hp hq
  have BS0 := Lib.hid bs
  clear bs
  unfold natv
  go_enter Try.func71, Try.ntmps71
  go_wp2_with fail
  refine (mul_any (x := x0) (y := x1) hn0 hn1 H0.out H1.out (hx0.below BS0.out.below) (hx1.below BS0.out.below)).mono ?_
  rintro e w1 ⟨hr, hb1⟩
  rw [← HP.out] at hr
  have bs1 := BS0.out.on hb1
  obtain ⟨z5, hz5⟩ : ∃ z, z = w.heap.size + 1 + 1 + 1 + 1 + 1 := ⟨_, rfl⟩
  obtain ⟨z4, hz4⟩ : ∃ z, z = w.heap.size + 1 + 1 + 1 + 1 := ⟨_, rfl⟩
  obtain ⟨z3, hz3⟩ : ∃ z, z = w.heap.size + 1 + 1 + 1 := ⟨_, rfl⟩
  obtain ⟨z2, hz2⟩ : ∃ z, z = w.heap.size + 1 + 1 := ⟨_, rfl⟩
  have hw4 : w.heap.size ≤ z4 := by omega
  have hw5 : w.heap.size ≤ z5 := by omega
  have h45 : z4 ≠ z5 := by omega
  have h54 : z5 ≠ z4 := by omega
  rw [← hz5, ← hz4, ← hz3, ← hz2] at bs1 ⊢
  have BS1 := Lib.hid bs1
  have hz0 := (BS0.out.get (.head _)).2.1
  have hz1 := (BS0.out.get (.tail _ (.head _))).2.1
  rw [← hz5] at hz0
  rw [← hz4] at hz1
  have HZ5 := Lib.hid hz0
  have HZ4 := Lib.hid hz1
  have HW0 := Lib.hid BS0.out.below.size
  obtain ⟨_, l4, k4⟩ := bs1.get (.tail _ (.head _))
  obtain ⟨_, l5, k5⟩ := bs1.get (.head _)
  clear BS0 hb1 bs1 hz5 hz4 hz3 hz2 hz0 hz1
  rcases hr with ⟨hp64, Dp, cp, rfl, hlp, hcp, hfp⟩ | ⟨hp64, rfl⟩
  · obtain ⟨lp, hlp2⟩ : ∃ l, l = L32 p := ⟨_, rfl⟩
    rw [← hlp2] at hlp hcp hp64 ⊢
    have HLP := Lib.hid hlp2
    have BS2 := Lib.hid (BS1.out.alloc TN #[.slice Dp lp cp])
    have HCP := Lib.hid (hcp.alloc (.cells #[.slice Dp lp cp] TN))
    have HFP := Lib.hid hfp
    obtain ⟨_, l2, k2⟩ := BS1.out.get (.tail _ (.tail _ (.tail _ (.head _))))
    obtain ⟨_, l3, k3⟩ := BS1.out.get (.tail _ (.tail _ (.head _)))
    have q2 : w1.cell? ⟨z2, 0, none⟩ = some (.slice D2 n2 c2) := k2.cell 0
    have q3 : w1.cell? ⟨z3, 0, none⟩ = some (.slice D3 n3 c3) := k3.cell 0
    clear hlp2 hcp hfp k2 k3 k4 k5
    unfold natv
    go_wp2_with fail
    refine (mul_any (x := x2) (y := x3) hn2 hn3 H2.out H3.out (hx2.below BS2.out.below) (hx3.below BS2.out.below)).mono ?_
    rintro e w2 ⟨hr, hb2⟩
    rw [← HQ.out] at hr
    clear q2 q3 l2 l3 l4 l5
    have BS3 := Lib.hid (BS2.out.on hb2)
    have HCP2 := Lib.hid (HCP.out.below hb2)
    obtain ⟨_, l4, k4⟩ := BS3.out.get (.tail _ (.tail _ (.head _)))
    obtain ⟨_, l5, k5⟩ := BS3.out.get (.tail _ (.head _))
    obtain ⟨_, l6, k6⟩ := BS3.out.get (.head _)
    have r4 : w2.cell? ⟨z4, 0, none⟩ = some (.slice none 0 0) := k4.cell 0
    have r5 : w2.cell? ⟨z5, 0, none⟩ = some (.slice none 0 0) := k5.cell 0
    have f4 : w2.frozen? ⟨z4, 0, none⟩ = false := k4.frozen 0
    have f5 : w2.frozen? ⟨z5, 0, none⟩ = false := k5.frozen 0
    clear HCP hb2
    rcases hr with ⟨hq64, Dq, cq, rfl, hlq, hcq, hfq⟩ | ⟨hq64, rfl⟩
    · obtain ⟨lq, hlq2⟩ : ∃ l, l = L32 q := ⟨_, rfl⟩
      rw [← hlq2] at hlq hcq hq64 ⊢
      have HLQ := Lib.hid hlq2
      have HCQ := Lib.hid hcq
      have HFQ := Lib.hid hfq
      have hq1 : w1.heap.size ≠ z4 := by have := (BS1.out.get (.tail _ (.head _))).2.1; omega
      have hq2 : w1.heap.size ≠ z5 := by have := (BS1.out.get (.head _)).2.1; omega
      have hn4 : w2.heap.size ≠ z4 := by omega
      have hn5 : w2.heap.size ≠ z5 := by omega
      have r6 : w2.cell? ⟨w1.heap.size, 0, none⟩ = some (.slice Dp lp cp) := k6.cell 0
      clear k4 k5 k6 hcq hfq hlq2
      unfold natv
      go_wp2
      obtain ⟨wa, hwa⟩ : ∃ wa, wa = w2.alloc (.cells #[.slice Dq lq cq] TN) := ⟨_, rfl⟩
      have BS4 := BS3.out.alloc TN #[.slice Dq lq cq]
      have CP4 := HCP2.out.alloc (.cells #[.slice Dq lq cq] TN)
      have CQ4 := HCQ.out.alloc (.cells #[.slice Dq lq cq] TN)
      obtain ⟨za, hza⟩ : ∃ z, z = w2.heap.size := ⟨_, rfl⟩
      obtain ⟨zb, hzb⟩ : ∃ z, z = w1.heap.size := ⟨_, rfl⟩
      have HZB := Lib.hid (show z4 < (w1.alloc (.cells #[.slice Dp lp cp] TN)).heap.size ∧ z5 < (w1.alloc (.cells #[.slice Dp lp cp] TN)).heap.size from ⟨(BS2.out.get (.tail _ (.tail _ (.head _)))).2.1, (BS2.out.get (.tail _ (.head _))).2.1⟩)
      have HW2 := Lib.hid BS2.out.below.size
      rw [← hwa] at BS4 CP4 CQ4
      rw [← hza] at BS4 hn4 hn5
      rw [← hzb] at BS4 hq1 hq2
      change Code.wp _ _ _ _ (w2.alloc (.cells #[.slice Dq lq cq] TN))
      rw [← hwa, ← hza, ← hzb]
      have BSH := Lib.hid BS4
      obtain ⟨_, la, ka⟩ := BS4.get (.head _)
      obtain ⟨_, lb, kb⟩ := BS4.get (.tail _ (.head _))
      obtain ⟨_, l4', k4⟩ := BS4.get (.tail _ (.tail _ (.tail _ (.head _))))
      obtain ⟨_, l5', k5⟩ := BS4.get (.tail _ (.tail _ (.head _)))
      have ra : wa.cell? ⟨za, 0, none⟩ = some (.slice Dq lq cq) := ka.cell 0
      have rb : wa.cell? ⟨zb, 0, none⟩ = some (.slice Dp lp cp) := kb.cell 0
      have s4 : wa.cell? ⟨z4, 0, none⟩ = some (.slice none 0 0) := k4.cell 0
      have s5 : wa.cell? ⟨z5, 0, none⟩ = some (.slice none 0 0) := k5.cell 0
      have g4 : wa.frozen? ⟨z4, 0, none⟩ = false := k4.frozen 0
      have g5 : wa.frozen? ⟨z5, 0, none⟩ = false := k5.frozen 0
      have HCPW := Lib.hid CP4
      have HCQW := Lib.hid CQ4
      clear hwa hza hzb r4 r5 f4 f5 r6 l4 l5 l6 BS4 CP4 CQ4 ka kb k4 k5 BS3
      go_region_law (fail)
      all_goals
        go_wp2
        refine bodyPost_ret (v := .tuple #[natv Dp lp cp, natv Dq lq cq, .int .i64 0]) (by unfold natv; simp [results, Try.results71, go_sem, s4, s5]) rfl ?_
        refine ⟨.inl ⟨by rw [← HLP.out]; exact hp64, by rw [← HLQ.out]; exact hq64, Dp, cp, Dq, cq, by rw [← HLP.out, ← HLQ.out], by rw [← HLP.out]; exact hlp, by rw [← HLQ.out]; exact hlq, ?_, ?_, HFP.out.mono HW0.out, HFQ.out.mono HW2.out⟩, ?_⟩
        · rw [← HLP.out]
          exact (HCPW.out.set_ HFP.out HZ4.out _ _).set_ HFP.out HZ5.out _ _
        · rw [← HLQ.out]
          exact (HCQW.out.set_ HFQ.out HZB.out.1 _ _).set_ HFQ.out HZB.out.2 _ _
        · repeat' (first | exact BSH.out.below | refine bse ?_ (by assumption) _ _ | refine Below.drew ?_)
    · have HB3 := Lib.hid BS3.out.below
      clear k4 k5 k6
      unfold natv
      go_wp2
      refine bodyPost_ret (v := .tuple #[natv none 0 0, natv none 0 0, .int .i64 9]) (by unfold natv; simp [results, Try.results71, go_sem, r4, r5, l4, l5]) rfl ?_
      refine ⟨.inr ⟨.inr hq64, rfl⟩, ?_⟩
      repeat' (first | exact HB3.out | refine bl_alloc ?_ _ | refine bse ?_ (by assumption) _ _)
  · have HB3 := Lib.hid BS1.out.below
    have r4 : w1.cell? ⟨z4, 0, none⟩ = some (.slice none 0 0) := k4.cell 0
    have r5 : w1.cell? ⟨z5, 0, none⟩ = some (.slice none 0 0) := k5.cell 0
    have f4 : w1.frozen? ⟨z4, 0, none⟩ = false := k4.frozen 0
    have f5 : w1.frozen? ⟨z5, 0, none⟩ = false := k5.frozen 0
    clear k4 k5
    unfold natv
    go_wp2
    refine bodyPost_ret (v := .tuple #[natv none 0 0, natv none 0 0, .int .i64 9]) (by unfold natv; simp [results, Try.results71, go_sem, r4, r5, l4, l5]) rfl ?_
    refine ⟨.inr ⟨.inl hp64, rfl⟩, ?_⟩
    repeat' (first | exact HB3.out | refine bl_alloc ?_ _ | refine bse ?_ (by assumption) _ _)
end Fr
end Go.Proofs.Ytiflmnmkmpjecaa
