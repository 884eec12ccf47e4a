/- The law FracMuls. -/
import Derived.Test.YteclghokkdkolaaFrLawMakes
import Derived.Test.YteclghokkdkolaaFrRArith
set_option linter.unusedVariables false
namespace Go.Proofs.Yteclghokkdkolaa
open Go.RowKit
namespace Fr
theorem rvalid_arg {W w : World} {D E : Option Addr} {n m c c' : Nat} {f g : Nat → Nat} (a : FrArg W D n c f E m c' g) (hb : Below W.heap.size W w) :
    Calls Try.prog 21 #[fv D n c E m c'] w fun e w' => e = .returned (.bool (fvd n f m g)) ∧ Below w.heap.size w w' := by
  have hn : n ≤ 9223372036854775807 := by have := a.nc; have := a.cm; unfold maxLen at *; omega
  have hm : m ≤ 9223372036854775807 := by have := a.mc; have := a.cm'; unfold maxLen at *; omega
  unfold fvd
  cases h0 : vd n f with
  | false => exact rfvalid_bad hn hm (a.cf.below hb) (a.cg.below hb) (.inl h0)
  | true =>
    cases h1 : vd m g with
    | false => exact rfvalid_bad hn hm (a.cf.below hb) (a.cg.below hb) (.inr ⟨h0, h1⟩)
    | true =>
      obtain ⟨p0, p1, p2⟩ := vd_num a.wf h0
      obtain ⟨q0, q1, q2⟩ := vd_num a.wg h1
      exact rfvalid_any p0 q0 p1.symm q1.symm ((a.cf.congr fun j hj => by unfold Lm; rw [p2 j hj]).below hb) ((a.cg.congr fun j hj => by unfold Lm; rw [q2 j hj]).below hb)
set_option maxHeartbeats 4000000 in
theorem out_FracMuls {W : World} {D0 E0 D1 E1 : Option Addr} {n0 m0 n1 m1 c0 d0 c1 d1 : Nat} {b0 b1 : Bool} (hn0 : n0 ≤ 9223372036854775807) (hm0 : m0 ≤ 9223372036854775807) (hn1 : n1 ≤ 9223372036854775807) (hm1 : m1 ≤ 9223372036854775807) (h0 : (decide (n0 ≤ 70) && decide (m0 ≤ 70)) = b0) (h1 : (decide (n1 ≤ 70) && decide (m1 ≤ 70)) = b1) (h : b0 = false ∨ b0 = true ∧ b1 = false) :
    Calls Try.prog 7 #[fv D0 n0 c0 E0 m0 d0, fv D1 n1 c1 E1 m1 d1] W fun e w' => e = .returned (.bool true) ∧ Below W.heap.size W w' := by
  have BS0 := Lib.hid (boxes2F W (.slice D0 n0 c0) (.slice E0 m0 d0) (.slice D1 n1 c1) (.slice E1 m1 d1))
  have S0 := fun w' => brief_any w' (D := D0) (E := E0) (n := n0) (m := m0) (c := c0) (c' := d0) (k := 70) hn0 hm0
  have S1 := fun w' => brief_any w' (D := D1) (E := E1) (n := n1) (m := m1) (c := c1) (c' := d1) (k := 70) hn1 hm1
  rw [h0] at S0
  rw [h1] at S1
  unfold fv at S0 S1 ⊢
  have HS0 := Lib.hid S0
  have HS1 := Lib.hid S1
  clear S0 S1 h0 h1
  rcases h with rfl | ⟨rfl, rfl⟩
  · go_enter Try.func7, Try.ntmps7
    go_wp2_with fail
    refine (HS0.out _).mono ?_
    rintro e wa ⟨rfl, hb⟩
    have BSa := Lib.hid (BS0.out.on hb)
    clear hb
    go_wp2_with fail
    refine (awake_any _).mono ?_
    rintro e w4 ⟨rfl, hb⟩
    have HB := Lib.hid (BSa.out.on hb).below
    clear hb
    go_wp2
    go_ret
    exact ⟨rfl, HB.out⟩
  · go_enter Try.func7, Try.ntmps7
    go_wp2_with fail
    refine (HS0.out _).mono ?_
    rintro e wa ⟨rfl, hb⟩
    have BSa := Lib.hid (BS0.out.on hb)
    obtain ⟨_, t1, k1'⟩ := BSa.out.get (.head _)
    have q0 : wa.cell? ⟨W.heap.size + 1, 0, none⟩ = some (.slice D1 n1 c1) := k1'.cell 0
    have q1 : wa.cell? ⟨W.heap.size + 1, 1, none⟩ = some (.slice E1 m1 d1) := k1'.cell 1
    clear hb BS0 k1'
    go_wp2_with fail
    refine (HS1.out _).mono ?_
    rintro e wb ⟨rfl, hb⟩
    have BSb := Lib.hid (BSa.out.on hb)
    clear hb q0 q1 t1
    go_wp2_with fail
    refine (awake_any _).mono ?_
    rintro e w4 ⟨rfl, hb⟩
    have HB := Lib.hid (BSb.out.on hb).below
    clear hb
    go_wp2
    go_ret
    exact ⟨rfl, HB.out⟩
set_option maxHeartbeats 8000000 in
set_option maxRecDepth 100000 in
theorem in_FracMuls {W : World} {D0 E0 D1 E1 : Option Addr} {n0 m0 n1 m1 c0 d0 c1 d1 : Nat} (hn0 : n0 ≤ 70) (hm0 : m0 ≤ 70) (hn1 : n1 ≤ 70) (hm1 : m1 ≤ 70) (ht : Twin W 28 29 #[fv D0 n0 c0 E0 m0 d0, fv D1 n1 c1 E1 m1 d1]) (hu : Twin W 30 31 #[fv D0 n0 c0 E0 m0 d0, fv D1 n1 c1 E1 m1 d1]) :
    Calls Try.prog 7 #[fv D0 n0 c0 E0 m0 d0, fv D1 n1 c1 E1 m1 d1] W fun e w' => e = .returned (.bool true) ∧ Below W.heap.size W w' := by
  have BS0 := Lib.hid (boxes2F W (.slice D0 n0 c0) (.slice E0 m0 d0) (.slice D1 n1 c1) (.slice E1 m1 d1))
  have S0 := fun w' => brief_any w' (D := D0) (E := E0) (n := n0) (m := m0) (c := c0) (c' := d0) (k := 70) (by omega) (by omega)
  have S1 := fun w' => brief_any w' (D := D1) (E := E1) (n := n1) (m := m1) (c := c1) (c' := d1) (k := 70) (by omega) (by omega)
  rw [show (decide (n0 ≤ 70) && decide (m0 ≤ 70)) = true by simp; omega] at S0
  rw [show (decide (n1 ≤ 70) && decide (m1 ≤ 70)) = true by simp; omega] at S1
  unfold fv at S0 S1
  have HS0 := Lib.hid S0
  have HS1 := Lib.hid S1
  clear S0 S1
  obtain ⟨xa, xb, u, hk, hr⟩ := ht
  obtain ⟨ya, yb, v, hk2, hr2⟩ := hu
  have huu : (u == u) = true := by simp
  have hvv : (v == v) = true := by simp
  unfold Tell at hk hr hk2 hr2
  unfold fv at hk hr hk2 hr2 ⊢
  have HK := Lib.hid hk
  have HR := Lib.hid hr
  have HK2 := Lib.hid hk2
  have HR2 := Lib.hid hr2
  clear hk hr hk2 hr2
  go_enter Try.func7, Try.ntmps7
  go_wp2_with fail
  refine (HS0.out _).mono ?_
  rintro e wa ⟨rfl, hb⟩
  have BSa := Lib.hid (BS0.out.on hb)
  obtain ⟨_, t1, k1'⟩ := BSa.out.get (.head _)
  have q0 : wa.cell? ⟨W.heap.size + 1, 0, none⟩ = some (.slice D1 n1 c1) := k1'.cell 0
  have q1 : wa.cell? ⟨W.heap.size + 1, 1, none⟩ = some (.slice E1 m1 d1) := k1'.cell 1
  clear hb BS0 k1'
  go_wp2_with fail
  refine (HS1.out _).mono ?_
  rintro e wb ⟨rfl, hb⟩
  have BSb := Lib.hid (BSa.out.on hb)
  clear hb q0 q1 t1 BSa
  obtain ⟨_, t0, k0'⟩ := BSb.out.get (.tail _ (.head _))
  obtain ⟨_, t1, k1'⟩ := BSb.out.get (.head _)
  have qa : wb.cell? ⟨W.heap.size, 0, none⟩ = some (.slice D0 n0 c0) := k0'.cell 0
  have qb : wb.cell? ⟨W.heap.size, 1, none⟩ = some (.slice E0 m0 d0) := k0'.cell 1
  have qc : wb.cell? ⟨W.heap.size + 1, 0, none⟩ = some (.slice D1 n1 c1) := k1'.cell 0
  have qd : wb.cell? ⟨W.heap.size + 1, 1, none⟩ = some (.slice E1 m1 d1) := k1'.cell 1
  clear k0' k1'
  go_wp2_with fail
  refine (HK.out _ BSb.out.below).mono ?_
  rintro e w1 ⟨⟨P1, l1, r1, Q1, j1, s1, rfl, a1, b1, hl1, hm1, x1, y1⟩, hb⟩
  clear qa qb qc qd t0 t1
  have BQ := Lib.hid (BSb.out.on hb)
  have BS1 := Lib.hid (BQ.out.alloc TF #[.slice P1 l1 r1, .slice Q1 j1 s1])
  have X1 := Lib.hid (x1.alloc (.cells #[.slice P1 l1 r1, .slice Q1 j1 s1] TF))
  have Y1 := Lib.hid (y1.alloc (.cells #[.slice P1 l1 r1, .slice Q1 j1 s1] TF))
  have HL1 := Lib.hid hl1
  have HM1 := Lib.hid hm1
  clear hb BSb x1 y1 hl1 hm1
  obtain ⟨_, t0, k0'⟩ := BQ.out.get (.tail _ (.head _))
  obtain ⟨_, t1, k1'⟩ := BQ.out.get (.head _)
  have qa : w1.cell? ⟨W.heap.size, 0, none⟩ = some (.slice D0 n0 c0) := k0'.cell 0
  have qb : w1.cell? ⟨W.heap.size, 1, none⟩ = some (.slice E0 m0 d0) := k0'.cell 1
  have qc : w1.cell? ⟨W.heap.size + 1, 0, none⟩ = some (.slice D1 n1 c1) := k1'.cell 0
  have qd : w1.cell? ⟨W.heap.size + 1, 1, none⟩ = some (.slice E1 m1 d1) := k1'.cell 1
  clear k0' k1'
  go_wp2_with fail
  refine (HR.out _ BS1.out.below).mono ?_
  rintro e w2 ⟨⟨P2, l2, r2, Q2, j2, s2, rfl, a2, b2, hl2, hm2, x2, y2⟩, hb⟩
  clear qa qb qc qd t0 t1 BQ
  have BQ := Lib.hid (BS1.out.on hb)
  have BS2 := Lib.hid (BQ.out.alloc TF #[.slice P2 l2 r2, .slice Q2 j2 s2])
  have X2 := Lib.hid (x2.alloc (.cells #[.slice P2 l2 r2, .slice Q2 j2 s2] TF))
  have Y2 := Lib.hid (y2.alloc (.cells #[.slice P2 l2 r2, .slice Q2 j2 s2] TF))
  replace X1 := Lib.hid ((X1.out.below hb).alloc (.cells #[.slice P2 l2 r2, .slice Q2 j2 s2] TF))
  replace Y1 := Lib.hid ((Y1.out.below hb).alloc (.cells #[.slice P2 l2 r2, .slice Q2 j2 s2] TF))
  have HL2 := Lib.hid hl2
  have HM2 := Lib.hid hm2
  clear hb BS1 x2 y2 hl2 hm2
  obtain ⟨_, t0, k0'⟩ := BQ.out.get (.tail _ (.tail _ (.head _)))
  obtain ⟨_, t1, k1'⟩ := BQ.out.get (.tail _ (.head _))
  have qa : w2.cell? ⟨W.heap.size, 0, none⟩ = some (.slice D0 n0 c0) := k0'.cell 0
  have qb : w2.cell? ⟨W.heap.size, 1, none⟩ = some (.slice E0 m0 d0) := k0'.cell 1
  have qc : w2.cell? ⟨W.heap.size + 1, 0, none⟩ = some (.slice D1 n1 c1) := k1'.cell 0
  have qd : w2.cell? ⟨W.heap.size + 1, 1, none⟩ = some (.slice E1 m1 d1) := k1'.cell 1
  clear k0' k1'
  go_wp2_with fail
  refine (HK2.out _ BS2.out.below).mono ?_
  rintro e w3 ⟨⟨P3, l3, r3, Q3, j3, s3, rfl, a3, b3, hl3, hm3, x3, y3⟩, hb⟩
  clear qa qb qc qd t0 t1 BQ
  have BQ := Lib.hid (BS2.out.on hb)
  have BS3 := Lib.hid (BQ.out.alloc TF #[.slice P3 l3 r3, .slice Q3 j3 s3])
  have X3 := Lib.hid (x3.alloc (.cells #[.slice P3 l3 r3, .slice Q3 j3 s3] TF))
  have Y3 := Lib.hid (y3.alloc (.cells #[.slice P3 l3 r3, .slice Q3 j3 s3] TF))
  replace X1 := Lib.hid ((X1.out.below hb).alloc (.cells #[.slice P3 l3 r3, .slice Q3 j3 s3] TF))
  replace Y1 := Lib.hid ((Y1.out.below hb).alloc (.cells #[.slice P3 l3 r3, .slice Q3 j3 s3] TF))
  replace X2 := Lib.hid ((X2.out.below hb).alloc (.cells #[.slice P3 l3 r3, .slice Q3 j3 s3] TF))
  replace Y2 := Lib.hid ((Y2.out.below hb).alloc (.cells #[.slice P3 l3 r3, .slice Q3 j3 s3] TF))
  have HL3 := Lib.hid hl3
  have HM3 := Lib.hid hm3
  clear hb BS2 x3 y3 hl3 hm3
  obtain ⟨_, t0, k0'⟩ := BQ.out.get (.tail _ (.tail _ (.tail _ (.head _))))
  obtain ⟨_, t1, k1'⟩ := BQ.out.get (.tail _ (.tail _ (.head _)))
  have qa : w3.cell? ⟨W.heap.size, 0, none⟩ = some (.slice D0 n0 c0) := k0'.cell 0
  have qb : w3.cell? ⟨W.heap.size, 1, none⟩ = some (.slice E0 m0 d0) := k0'.cell 1
  have qc : w3.cell? ⟨W.heap.size + 1, 0, none⟩ = some (.slice D1 n1 c1) := k1'.cell 0
  have qd : w3.cell? ⟨W.heap.size + 1, 1, none⟩ = some (.slice E1 m1 d1) := k1'.cell 1
  clear k0' k1'
  go_wp2_with fail
  refine (HR2.out _ BS3.out.below).mono ?_
  rintro e w4 ⟨⟨P4, l4, r4, Q4, j4, s4, rfl, a4, b4, hl4, hm4, x4, y4⟩, hb⟩
  clear qa qb qc qd t0 t1 BQ
  have BQ := Lib.hid (BS3.out.on hb)
  have BS4 := Lib.hid (BQ.out.alloc TF #[.slice P4 l4 r4, .slice Q4 j4 s4])
  have X4 := Lib.hid (x4.alloc (.cells #[.slice P4 l4 r4, .slice Q4 j4 s4] TF))
  have Y4 := Lib.hid (y4.alloc (.cells #[.slice P4 l4 r4, .slice Q4 j4 s4] TF))
  replace X1 := Lib.hid ((X1.out.below hb).alloc (.cells #[.slice P4 l4 r4, .slice Q4 j4 s4] TF))
  replace Y1 := Lib.hid ((Y1.out.below hb).alloc (.cells #[.slice P4 l4 r4, .slice Q4 j4 s4] TF))
  replace X2 := Lib.hid ((X2.out.below hb).alloc (.cells #[.slice P4 l4 r4, .slice Q4 j4 s4] TF))
  replace Y2 := Lib.hid ((Y2.out.below hb).alloc (.cells #[.slice P4 l4 r4, .slice Q4 j4 s4] TF))
  replace X3 := Lib.hid ((X3.out.below hb).alloc (.cells #[.slice P4 l4 r4, .slice Q4 j4 s4] TF))
  replace Y3 := Lib.hid ((Y3.out.below hb).alloc (.cells #[.slice P4 l4 r4, .slice Q4 j4 s4] TF))
  have HL4 := Lib.hid hl4
  have HM4 := Lib.hid hm4
  clear hb BS3 x4 y4 hl4 hm4
  obtain ⟨_, tb1, kb⟩ := BQ.out.get (.tail _ (.tail _ (.head _)))
  have qb1 : w4.cell? ⟨w1.heap.size, 0, none⟩ = some (.slice P1 l1 r1) := kb.cell 0
  have qc1 : w4.cell? ⟨w1.heap.size, 1, none⟩ = some (.slice Q1 j1 s1) := kb.cell 1
  clear kb
  obtain ⟨_, tb2, kb⟩ := BQ.out.get (.tail _ (.head _))
  have qb2 : w4.cell? ⟨w2.heap.size, 0, none⟩ = some (.slice P2 l2 r2) := kb.cell 0
  have qc2 : w4.cell? ⟨w2.heap.size, 1, none⟩ = some (.slice Q2 j2 s2) := kb.cell 1
  clear kb
  go_wp2_with fail
  refine (same_eq a1 b1 a2 b2 HL1.out HM1.out HL2.out HM2.out X1.out Y1.out X2.out Y2.out).mono ?_
  rintro e w5 ⟨rfl, hb⟩
  have BS5 := Lib.hid (BS4.out.on hb)
  replace X3 := Lib.hid (X3.out.below hb)
  replace Y3 := Lib.hid (Y3.out.below hb)
  replace X4 := Lib.hid (X4.out.below hb)
  replace Y4 := Lib.hid (Y4.out.below hb)
  clear hb BQ BS4 qb1 qc1 tb1 qb2 qc2 tb2 X1 Y1 X2 Y2
  obtain ⟨_, tb3, kb⟩ := BS5.out.get (.tail _ (.head _))
  have qb3 : w5.cell? ⟨w3.heap.size, 0, none⟩ = some (.slice P3 l3 r3) := kb.cell 0
  have qc3 : w5.cell? ⟨w3.heap.size, 1, none⟩ = some (.slice Q3 j3 s3) := kb.cell 1
  clear kb
  obtain ⟨_, tb4, kb⟩ := BS5.out.get (.head _)
  have qb4 : w5.cell? ⟨w4.heap.size, 0, none⟩ = some (.slice P4 l4 r4) := kb.cell 0
  have qc4 : w5.cell? ⟨w4.heap.size, 1, none⟩ = some (.slice Q4 j4 s4) := kb.cell 1
  clear kb
  go_wp2_with fail
  refine (same_eq a3 b3 a4 b4 HL3.out HM3.out HL4.out HM4.out X3.out Y3.out X4.out Y4.out).mono ?_
  rintro e w6 ⟨rfl, hb⟩
  have BS6 := Lib.hid (BS5.out.on hb)
  clear hb BS5 qb3 qc3 tb3 qb4 qc4 tb4 X3 Y3 X4 Y4
  go_wp2_with fail
  refine (awake_any _).mono ?_
  rintro e w7 ⟨rfl, hb⟩
  have HB := Lib.hid (BS6.out.on hb).below
  clear hb
  go_wp2
  go_ret
  exact ⟨rfl, HB.out⟩
theorem twin_mul {W : World} {D0 E0 D1 E1 : Option Addr} {n0 m0 n1 m1 c0 d0 c1 d1 : Nat} {f0 g0 f1 g1 : Nat → Nat} (a0 : FrArg W D0 n0 c0 f0 E0 m0 d0 g0) (a1 : FrArg W D1 n1 c1 f1 E1 m1 d1 g1) : Twin W 28 29 #[fv D0 n0 c0 E0 m0 d0, fv D1 n1 c1 E1 m1 d1] := by
  by_cases hv : fvd n0 f0 m0 g0 = false ∨ fvd n0 f0 m0 g0 = true ∧ fvd n1 f1 m1 g1 = false
  · exact Twin.err 2 (fun w' hw => mul_no (fun w'' h => valid_arg a0 (Below.on hw h)) (fun w'' h => valid_arg a1 (Below.on hw h)) hv) (fun w' hw => rmul_no (fun w'' h => rvalid_arg a0 (Below.on hw h)) (fun w'' h => rvalid_arg a1 (Below.on hw h)) hv)
  · have h0 : fvd n0 f0 m0 g0 = true := by
      cases h : fvd n0 f0 m0 g0 with
      | true => rfl
      | false => exact absurd (.inl h) hv
    have h1 : fvd n1 f1 m1 g1 = true := by
      cases h : fvd n1 f1 m1 g1 with
      | true => rfl
      | false => exact absurd (.inr ⟨h0, h⟩) hv
    have A0 := FrArg.num a0 h0
    have A1 := FrArg.num a1 h1
    exact Twin.out (fun h => len_div h.1) (fun h => len_div h.2) (fun w' hw => mul_ok A0.n64 A0.m64 A1.n64 A1.m64 A0.nx A0.my A1.nx A1.my (A0.cx.below hw) (A0.cy.below hw) (A1.cx.below hw) (A1.cy.below hw) A0.ok A1.ok) (fun w' hw => rmul_ok A0.n64 A0.m64 A1.n64 A1.m64 A0.nx A0.my A1.nx A1.my (A0.cx.below hw) (A0.cy.below hw) (A1.cx.below hw) (A1.cy.below hw) A0.ok A1.ok)
theorem twin_div {W : World} {D0 E0 D1 E1 : Option Addr} {n0 m0 n1 m1 c0 d0 c1 d1 : Nat} {f0 g0 f1 g1 : Nat → Nat} (a0 : FrArg W D0 n0 c0 f0 E0 m0 d0 g0) (a1 : FrArg W D1 n1 c1 f1 E1 m1 d1 g1) : Twin W 30 31 #[fv D0 n0 c0 E0 m0 d0, fv D1 n1 c1 E1 m1 d1] := by
  by_cases hv : fvd n0 f0 m0 g0 = false ∨ fvd n0 f0 m0 g0 = true ∧ fvd n1 f1 m1 g1 = false
  · exact Twin.err 2 (fun w' hw => div_no (fun w'' h => valid_arg a0 (Below.on hw h)) (fun w'' h => valid_arg a1 (Below.on hw h)) hv) (fun w' hw => rdiv_no (fun w'' h => rvalid_arg a0 (Below.on hw h)) (fun w'' h => rvalid_arg a1 (Below.on hw h)) hv)
  · have h0 : fvd n0 f0 m0 g0 = true := by
      cases h : fvd n0 f0 m0 g0 with
      | true => rfl
      | false => exact absurd (.inl h) hv
    have h1 : fvd n1 f1 m1 g1 = true := by
      cases h : fvd n1 f1 m1 g1 with
      | true => rfl
      | false => exact absurd (.inr ⟨h0, h⟩) hv
    have A0 := FrArg.num a0 h0
    have A1 := FrArg.num a1 h1
    by_cases hz : v32 f1 n1 = 0
    · exact Twin.err 10 (fun w' hw => div_zero A0.n64 A0.m64 A1.n64 A1.m64 A0.nx A0.my A1.nx A1.my (A0.cx.below hw) (A0.cy.below hw) (A1.cx.below hw) (A1.cy.below hw) A0.ok A1.ok hz) (fun w' hw => rdiv_zero A0.n64 A0.m64 A1.n64 A1.m64 A0.nx A0.my A1.nx A1.my (A0.cx.below hw) (A0.cy.below hw) (A1.cx.below hw) (A1.cy.below hw) A0.ok A1.ok hz)
    · exact Twin.out (fun h => len_div h.1) (fun h => len_div h.2) (fun w' hw => div_ok A0.n64 A0.m64 A1.n64 A1.m64 A0.nx A0.my A1.nx A1.my (A0.cx.below hw) (A0.cy.below hw) (A1.cx.below hw) (A1.cy.below hw) A0.ok A1.ok (by omega)) (fun w' hw => rdiv_ok A0.n64 A0.m64 A1.n64 A1.m64 A0.nx A0.my A1.nx A1.my (A0.cx.below hw) (A0.cy.below hw) (A1.cx.below hw) (A1.cy.below hw) A0.ok A1.ok (by omega))
end Fr
theorem fracMuls_walk (W : World) {D0 E0 D1 E1 : Option Addr} {n0 m0 n1 m1 c0 d0 c1 d1 : Nat} {f0 g0 f1 g1 : Nat → Nat} (a0 : FrArg W D0 n0 c0 f0 E0 m0 d0 g0) (a1 : FrArg W D1 n1 c1 f1 E1 m1 d1 g1) :
    Calls Try.prog 7 #[Fr.fv D0 n0 c0 E0 m0 d0, Fr.fv D1 n1 c1 E1 m1 d1] W fun e w' => e = .returned (.bool true) ∧ Below W.heap.size W w' := by
  have hn0 : n0 ≤ 9223372036854775807 := by have := a0.nc; have := a0.cm; unfold maxLen at *; omega
  have hm0 : m0 ≤ 9223372036854775807 := by have := a0.mc; have := a0.cm'; unfold maxLen at *; omega
  have hn1 : n1 ≤ 9223372036854775807 := by have := a1.nc; have := a1.cm; unfold maxLen at *; omega
  have hm1 : m1 ≤ 9223372036854775807 := by have := a1.mc; have := a1.cm'; unfold maxLen at *; omega
  cases h0 : (decide (n0 ≤ 70) && decide (m0 ≤ 70)) with
  | false => exact Fr.out_FracMuls hn0 hm0 hn1 hm1 h0 rfl (.inl rfl)
  | true =>
    cases h1 : (decide (n1 ≤ 70) && decide (m1 ≤ 70)) with
    | false => exact Fr.out_FracMuls hn0 hm0 hn1 hm1 h0 h1 (.inr ⟨rfl, rfl⟩)
    | true =>
      simp only [Bool.and_eq_true, decide_eq_true_eq] at h0 h1
      exact Fr.in_FracMuls h0.1 h0.2 h1.1 h1.2 (Fr.twin_mul a0 a1) (Fr.twin_div a0 a1)
end Go.Proofs.Yteclghokkdkolaa
