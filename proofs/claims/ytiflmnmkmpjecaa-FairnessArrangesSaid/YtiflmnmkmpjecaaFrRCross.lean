/- The walks of the reference's crossed, Add and Sub of fractions. -/
import Derived.Test.YtiflmnmkmpjecaaFrRArith
import Derived.Test.YtiflmnmkmpjecaaFrRCmp
import Derived.Deep.RegionLaw
set_option linter.unusedVariables false
namespace Go.Proofs.Ytiflmnmkmpjecaa
open Go.RowKit
namespace Fr
/-- Three products, or an overflow. -/
def Three (w' : World) (e : Ending) (p q d : Nat) : Prop :=
  ((L32 p ≤ 64 ∧ L32 q ≤ 64 ∧ L32 d ≤ 64) ∧ ∃ D c E c' F c'', e = .returned (.tuple #[natv D (L32 p) c, natv E (L32 q) c', natv F (L32 d) c'', .int .i64 0]) ∧ Cells w' D (L32 p) (Lm (d32 p)) ∧ Cells w' E (L32 q) (Lm (d32 q)) ∧ Cells w' F (L32 d) (Lm (d32 d))) ∨
  (¬(L32 p ≤ 64 ∧ L32 q ≤ 64 ∧ L32 d ≤ 64) ∧ e = .returned (.tuple #[natv none 0 0, natv none 0 0, natv none 0 0, .int .i64 9]))
theorem boxesC (w : World) (S T U V : Value) : Bs w (((((w.alloc (.cells #[S, T] TF)).alloc (.cells #[U, V] TF)).alloc (.cells #[.slice none 0 0] TN)).alloc (.cells #[.slice none 0 0] TN)).alloc (.cells #[.slice none 0 0] TN))
    [(w.heap.size + 1 + 1 + 1 + 1, TN, #[.slice none 0 0]), (w.heap.size + 1 + 1 + 1, TN, #[.slice none 0 0]), (w.heap.size + 1 + 1, TN, #[.slice none 0 0]), (w.heap.size + 1, TF, #[U, V]), (w.heap.size, TF, #[S, T])] := by
  have := (((((Bs.nil w).alloc TF #[S, T]).alloc TF #[U, V]).alloc TN #[.slice none 0 0]).alloc TN #[.slice none 0 0]).alloc TN #[.slice none 0 0]
  simp only [World.size_alloc] at this
  exact this
set_option maxHeartbeats 8000000 in
set_option maxRecDepth 100000 in
theorem crossed_any {D0 D1 D2 D3 : Option Addr} {n0 n1 n2 n3 c0 c1 c2 c3 xn xd yn yd : Nat} {w : World} (hn0 : n0 ≤ 64) (hn1 : n1 ≤ 64) (hn2 : n2 ≤ 64) (hn3 : n3 ≤ 64) (h0 : n0 = L32 xn) (h1 : n1 = L32 xd) (h2 : n2 = L32 yn) (h3 : n3 = L32 yd)
    (hx0 : Cells w D0 n0 (Lm (d32 xn))) (hx1 : Cells w D1 n1 (Lm (d32 xd))) (hx2 : Cells w D2 n2 (Lm (d32 yn))) (hx3 : Cells w D3 n3 (Lm (d32 yd))) :
    Calls Try.prog 45 #[fv D0 n0 c0 D1 n1 c1, fv D2 n2 c2 D3 n3 c3] w fun e w' => Three w' e (xn * yd) (yn * xd) (xd * yd) ∧ Below w.heap.size w w' := by
  have H0 := Lib.hid h0
  have H1 := Lib.hid h1
  have H2 := Lib.hid h2
  have H3 := Lib.hid h3
  obtain ⟨p, hp⟩ : ∃ p, p = xn * yd := ⟨_, rfl⟩
  obtain ⟨q, hq⟩ : ∃ q, q = yn * xd := ⟨_, rfl⟩
  obtain ⟨d, hd⟩ : ∃ q, q = xd * yd := ⟨_, rfl⟩
  have HP := Lib.hid hp
  have HQ := Lib.hid hq
  have HD := Lib.hid hd
  rw [← hp, ← hq, ← hd]
  clear hp hq hd h0 h1 h2 h3
  have BS0 := Lib.hid (boxesC w (.slice D0 n0 c0) (.slice D1 n1 c1) (.slice D2 n2 c2) (.slice D3 n3 c3))
  unfold fv
  go_enter Try.func45, Try.ntmps45
  go_wp2_with fail
  refine (mulN (x := xn) (y := yd) hn0 hn3 H0.out H3.out (hx0.below BS0.out.below) (hx3.below BS0.out.below)).mono ?_
  rintro e w1 ⟨Dp, lp, cp, yp, rfl, hp, hb1⟩
  rw [← HP.out] at hp
  obtain ⟨z6, hz6⟩ : ∃ z, z = w.heap.size + 1 + 1 + 1 + 1 := ⟨_, rfl⟩
  obtain ⟨z5, hz5⟩ : ∃ z, z = w.heap.size + 1 + 1 + 1 := ⟨_, rfl⟩
  obtain ⟨z4, hz4⟩ : ∃ z, z = w.heap.size + 1 + 1 := ⟨_, rfl⟩
  have bs1 := BS0.out.on hb1
  have t6 := (BS0.out.get (.head _)).2.1
  have t5 := (BS0.out.get (.tail _ (.head _))).2.1
  have t4 := (BS0.out.get (.tail _ (.tail _ (.head _)))).2.1
  have hw4 : w.heap.size ≤ z4 := by omega
  have hw5 : w.heap.size ≤ z5 := by omega
  have hw6 : w.heap.size ≤ z6 := by omega
  have h45 : z4 ≠ z5 := by omega
  have h54 : z5 ≠ z4 := by omega
  have h46 : z4 ≠ z6 := by omega
  have h64 : z6 ≠ z4 := by omega
  have h56 : z5 ≠ z6 := by omega
  have h65 : z6 ≠ z5 := by omega
  rw [← hz6, ← hz5, ← hz4] at bs1 ⊢
  rw [← hz6] at t6
  rw [← hz5] at t5
  rw [← hz4] at t4
  have BS1 := Lib.hid bs1
  have T4 := Lib.hid t4
  have T5 := Lib.hid t5
  have T6 := Lib.hid t6
  clear BS0 bs1 hb1 hz4 hz5 hz6 t4 t5 t6
  have BS2 := Lib.hid (BS1.out.alloc TN #[.slice Dp lp cp])
  have NP := Lib.hid (hp.alloc (.cells #[.slice Dp lp cp] TN))
  obtain ⟨_, la2, ka⟩ := BS1.out.get (.tail _ (.tail _ (.tail _ (.tail _ (.head _)))))
  obtain ⟨_, lb2, kb⟩ := BS1.out.get (.tail _ (.tail _ (.tail _ (.head _))))
  have r1 : w1.cell? ⟨w.heap.size, 1, none⟩ = some (.slice D1 n1 c1) := ka.cell 1
  have r2 : w1.cell? ⟨w.heap.size + 1, 0, none⟩ = some (.slice D2 n2 c2) := kb.cell 0
  have r3 : w1.cell? ⟨w.heap.size + 1, 1, none⟩ = some (.slice D3 n3 c3) := kb.cell 1
  have HS1 := Lib.hid (show w.heap.size + 1 + 1 ≤ w1.heap.size by omega)
  clear ka kb hp
  unfold natv
  go_wp2_with fail
  refine (mulN (x := yn) (y := xd) hn2 hn1 H2.out H1.out (hx2.below BS2.out.below) (hx1.below BS2.out.below)).mono ?_
  rintro e w2 ⟨Dq, lq, cq, yq, rfl, hq, hb2⟩
  rw [← HQ.out] at hq
  have BS3 := Lib.hid (BS2.out.on hb2)
  have BS4 := Lib.hid (BS3.out.alloc TN #[.slice Dq lq cq])
  replace NP := Lib.hid ((NP.out.below hb2).alloc (.cells #[.slice Dq lq cq] TN))
  have NQ := Lib.hid (hq.alloc (.cells #[.slice Dq lq cq] TN))
  clear r1 r2 r3 la2 lb2 hb2 hq
  obtain ⟨_, la2, ka⟩ := BS3.out.get (.tail _ (.tail _ (.tail _ (.tail _ (.tail _ (.head _))))))
  obtain ⟨_, lb2, kb⟩ := BS3.out.get (.tail _ (.tail _ (.tail _ (.tail _ (.head _)))))
  have r1 : w2.cell? ⟨w.heap.size, 1, none⟩ = some (.slice D1 n1 c1) := ka.cell 1
  have r3 : w2.cell? ⟨w.heap.size + 1, 1, none⟩ = some (.slice D3 n3 c3) := kb.cell 1
  clear ka kb
  unfold natv
  go_wp2_with fail
  refine (mulN (x := xd) (y := yd) hn1 hn3 H1.out H3.out (hx1.below BS4.out.below) (hx3.below BS4.out.below)).mono ?_
  rintro e w3 ⟨Dd, ld, cd, yv, rfl, hd, hb3⟩
  rw [← HD.out] at hd
  have BS5 := Lib.hid (BS4.out.on hb3)
  have TA := Lib.hid (show z4 < w1.heap.size ∧ z5 < w1.heap.size ∧ z6 < w1.heap.size from ⟨(BS1.out.get (.tail _ (.tail _ (.head _)))).2.1, (BS1.out.get (.tail _ (.head _))).2.1, (BS1.out.get (.head _)).2.1⟩)
  have TB := Lib.hid (show w1.heap.size < w2.heap.size ∧ w2.heap.size < w3.heap.size from ⟨(BS3.out.get (.head _)).2.1, (BS5.out.get (.head _)).2.1⟩)
  have UA := Lib.hid (show z4 < (w1.alloc (.cells #[.slice Dp lp cp] TN)).heap.size ∧ z5 < (w1.alloc (.cells #[.slice Dp lp cp] TN)).heap.size ∧ z6 < (w1.alloc (.cells #[.slice Dp lp cp] TN)).heap.size from ⟨(BS2.out.get (.tail _ (.tail _ (.tail _ (.head _))))).2.1, (BS2.out.get (.tail _ (.tail _ (.head _)))).2.1, (BS2.out.get (.tail _ (.head _))).2.1⟩)
  have UB := Lib.hid (show z4 < (w2.alloc (.cells #[.slice Dq lq cq] TN)).heap.size ∧ z5 < (w2.alloc (.cells #[.slice Dq lq cq] TN)).heap.size ∧ z6 < (w2.alloc (.cells #[.slice Dq lq cq] TN)).heap.size from ⟨(BS4.out.get (.tail _ (.tail _ (.tail _ (.tail _ (.head _)))))).2.1, (BS4.out.get (.tail _ (.tail _ (.tail _ (.head _))))).2.1, (BS4.out.get (.tail _ (.tail _ (.head _)))).2.1⟩)
  replace NP := Lib.hid (NP.out.below hb3)
  replace NQ := Lib.hid (NQ.out.below hb3)
  have ND := Lib.hid hd
  clear r1 r3 la2 lb2 hb3 hd BS1 BS2 BS3 BS4
  obtain ⟨_, l4, k4⟩ := BS5.out.get (.tail _ (.tail _ (.tail _ (.tail _ (.head _)))))
  obtain ⟨_, l5, k5⟩ := BS5.out.get (.tail _ (.tail _ (.tail _ (.head _))))
  obtain ⟨_, l6, k6⟩ := BS5.out.get (.tail _ (.tail _ (.head _)))
  have s4 : w3.cell? ⟨z4, 0, none⟩ = some (.slice none 0 0) := k4.cell 0
  have s5 : w3.cell? ⟨z5, 0, none⟩ = some (.slice none 0 0) := k5.cell 0
  have s6 : w3.cell? ⟨z6, 0, none⟩ = some (.slice none 0 0) := k6.cell 0
  have f4 : w3.frozen? ⟨z4, 0, none⟩ = false := k4.frozen 0
  have f5 : w3.frozen? ⟨z5, 0, none⟩ = false := k5.frozen 0
  have f6 : w3.frozen? ⟨z6, 0, none⟩ = false := k6.frozen 0
  have HB7 := Lib.hid BS5.out.below
  clear k4 k5 k6
  unfold natv
  rcases NP.out with ⟨p64, rfl, hlp, hcp, hfp⟩ | ⟨p64, rfl, rfl, rfl, rfl⟩
  · rcases NQ.out with ⟨q64, rfl, hlq, hcq, hfq⟩ | ⟨q64, rfl, rfl, rfl, rfl⟩
    · rcases ND.out with ⟨d64, rfl, hld, hcd, hfd⟩ | ⟨d64, rfl, rfl, rfl, rfl⟩
      · have HLP := Lib.hid hlp
        have HLQ := Lib.hid hlq
        have HLD := Lib.hid hld
        have HFIT := Lib.hid (show L32 p ≤ 64 ∧ L32 q ≤ 64 ∧ L32 d ≤ 64 from ⟨p64, q64, d64⟩)
        have HCP := Lib.hid (hcp.alloc (.cells #[.slice Dd ld cd] TN))
        have HCQ := Lib.hid (hcq.alloc (.cells #[.slice Dd ld cd] TN))
        have HCD := Lib.hid (hcd.alloc (.cells #[.slice Dd ld cd] TN))
        have HFP := Lib.hid hfp
        have HFQ := Lib.hid hfq
        have HFD := Lib.hid hfd
        clear NP NQ ND hlp hlq hld hcp hcq hcd hfp hfq hfd p64 q64 d64
        go_wp2
        have BS6 := BS5.out.alloc TN #[.slice Dd ld cd]
        obtain ⟨wa, hwa⟩ : ∃ wa, wa = w3.alloc (.cells #[.slice Dd ld cd] TN) := ⟨_, rfl⟩
        change Code.wp _ _ _ _ (w3.alloc (.cells #[.slice Dd ld cd] TN))
        have u0 := TA.out
        have u1 := TB.out
        obtain ⟨b1, hb1⟩ : ∃ z, z = w1.heap.size := ⟨_, rfl⟩
        obtain ⟨b2, hb2⟩ : ∃ z, z = w2.heap.size := ⟨_, rfl⟩
        obtain ⟨b3, hb3⟩ : ∃ z, z = w3.heap.size := ⟨_, rfl⟩
        have a41 : b1 ≠ z4 := by omega
        have a51 : b1 ≠ z5 := by omega
        have a61 : b1 ≠ z6 := by omega
        have a42 : b2 ≠ z4 := by omega
        have a52 : b2 ≠ z5 := by omega
        have a62 : b2 ≠ z6 := by omega
        have a43 : b3 ≠ z4 := by omega
        have a53 : b3 ≠ z5 := by omega
        have a63 : b3 ≠ z6 := by omega
        rw [← hwa] at BS6 HCP HCQ HCD ⊢
        rw [← hb1, ← hb2, ← hb3] at BS6 ⊢
        have BSH := Lib.hid BS6.below
        obtain ⟨_, la, ka⟩ := BS6.get (.tail _ (.tail _ (.head _)))
        obtain ⟨_, lb, kb⟩ := BS6.get (.tail _ (.head _))
        obtain ⟨_, lc, kc⟩ := BS6.get (.head _)
        obtain ⟨_, m4, k4⟩ := BS6.get (.tail _ (.tail _ (.tail _ (.tail _ (.tail _ (.head _))))))
        obtain ⟨_, m5, k5⟩ := BS6.get (.tail _ (.tail _ (.tail _ (.tail _ (.head _)))))
        obtain ⟨_, m6, k6⟩ := BS6.get (.tail _ (.tail _ (.tail _ (.head _))))
        have ra : wa.cell? ⟨b1, 0, none⟩ = some (.slice Dp lp cp) := ka.cell 0
        have rb : wa.cell? ⟨b2, 0, none⟩ = some (.slice Dq lq cq) := kb.cell 0
        have rc : wa.cell? ⟨b3, 0, none⟩ = some (.slice Dd ld cd) := kc.cell 0
        have t4 : wa.cell? ⟨z4, 0, none⟩ = some (.slice none 0 0) := k4.cell 0
        have t5 : wa.cell? ⟨z5, 0, none⟩ = some (.slice none 0 0) := k5.cell 0
        have t6 : wa.cell? ⟨z6, 0, none⟩ = some (.slice none 0 0) := k6.cell 0
        have g4 : wa.frozen? ⟨z4, 0, none⟩ = false := k4.frozen 0
        have g5 : wa.frozen? ⟨z5, 0, none⟩ = false := k5.frozen 0
        have g6 : wa.frozen? ⟨z6, 0, none⟩ = false := k6.frozen 0
        clear hwa hb1 hb2 hb3 u0 u1 s4 s5 s6 f4 f5 f6 l4 l5 l6 BS6 BS5 ka kb kc k4 k5 k6
        go_region_law (fail)
        all_goals
          go_wp2
          refine bodyPost_ret (v := .tuple #[natv Dp lp cp, natv Dq lq cq, natv Dd ld cd, .int .i64 0]) (by unfold natv; simp [results, Try.results45, go_sem, t4, t5, t6]) rfl ?_
          refine ⟨.inl ⟨HFIT.out, Dp, cp, Dq, cq, Dd, cd, by rw [← HLP.out, ← HLQ.out, ← HLD.out], ?_, ?_, ?_⟩, ?_⟩
          · rw [← HLP.out]
            exact ((HCP.out.set_ HFP.out T4.out _ _).set_ HFP.out T5.out _ _).set_ HFP.out T6.out _ _
          · rw [← HLQ.out]
            exact ((HCQ.out.set_ HFQ.out UA.out.1 _ _).set_ HFQ.out UA.out.2.1 _ _).set_ HFQ.out UA.out.2.2 _ _
          · rw [← HLD.out]
            exact ((HCD.out.set_ HFD.out UB.out.1 _ _).set_ HFD.out UB.out.2.1 _ _).set_ HFD.out UB.out.2.2 _ _
          · repeat' (first | exact BSH.out | refine bse ?_ (by assumption) _ _ | refine Below.drew ?_)
      · have HN := Lib.hid (show ¬(L32 p ≤ 64 ∧ L32 q ≤ 64 ∧ L32 d ≤ 64) from fun h => by have := h.2.2; omega)
        clear NP NQ ND hlp hcp hfp hlq hcq hfq p64 q64 d64
        go_wp2
        refine bodyPost_ret (v := .tuple #[natv none 0 0, natv none 0 0, natv none 0 0, .int .i64 9]) (by unfold natv; simp [results, Try.results45, go_sem, s4, s5, s6, l4, l5, l6]) rfl ?_
        refine ⟨.inr ⟨HN.out, rfl⟩, ?_⟩
        repeat' (first | exact HB7.out | refine bl_alloc ?_ _ | refine bse ?_ (by assumption) _ _ | refine Below.drew ?_)
    · have HN := Lib.hid (show ¬(L32 p ≤ 64 ∧ L32 q ≤ 64 ∧ L32 d ≤ 64) from fun h => by have := h.2.1; omega)
      clear NP NQ ND hlp hcp hfp p64 q64
      go_wp2
      refine bodyPost_ret (v := .tuple #[natv none 0 0, natv none 0 0, natv none 0 0, .int .i64 9]) (by unfold natv; simp [results, Try.results45, go_sem, s4, s5, s6, l4, l5, l6]) rfl ?_
      refine ⟨.inr ⟨HN.out, rfl⟩, ?_⟩
      repeat' (first | exact HB7.out | refine bl_alloc ?_ _ | refine bse ?_ (by assumption) _ _ | refine Below.drew ?_)
  · have HN := Lib.hid (show ¬(L32 p ≤ 64 ∧ L32 q ≤ 64 ∧ L32 d ≤ 64) from fun h => by have := h.1; omega)
    clear NP NQ ND p64
    go_wp2
    refine bodyPost_ret (v := .tuple #[natv none 0 0, natv none 0 0, natv none 0 0, .int .i64 9]) (by unfold natv; simp [results, Try.results45, go_sem, s4, s5, s6, l4, l5, l6]) rfl ?_
    refine ⟨.inr ⟨HN.out, rfl⟩, ?_⟩
    repeat' (first | exact HB7.out | refine bl_alloc ?_ _ | refine bse ?_ (by assumption) _ _ | refine Below.drew ?_)
end Fr
end Go.Proofs.Ytiflmnmkmpjecaa
