/- The law FracCompares. -/
import Derived.Test.YteclghokkdkolaaFrRCmp
import Derived.Test.YteclghokkdkolaaFrOpens
import Derived.Test.YteclghokkdkolaaRows
import Derived.Deep.RegionHeld3
set_option linter.unusedVariables false
namespace Go.Proofs.Yteclghokkdkolaa
open Go.RowKit
namespace Fr
theorem rvalid_arg {W w : World} {D E : Option Addr} {n m c c' : Nat} {f g : Nat → Nat} (a : FrArg W D n c f E m c' g) (hb : Below W.heap.size W w) :
    Calls Try.prog 21 #[fv D n c E m c'] w fun e w' => e = .returned (.bool (fvd n f m g)) ∧ Below w.heap.size w w' := by
  have hn : n ≤ 9223372036854775807 := by have := a.nc; have := a.cm; unfold maxLen at *; omega
  have hm : m ≤ 9223372036854775807 := by have := a.mc; have := a.cm'; unfold maxLen at *; omega
  unfold fvd
  cases h0 : vd n f with
  | false => exact rfvalid_bad hn hm (a.cf.below hb) (a.cg.below hb) (.inl h0)
  | true =>
    cases h1 : vd m g with
    | false => exact rfvalid_bad hn hm (a.cf.below hb) (a.cg.below hb) (.inr ⟨h0, h1⟩)
    | true =>
      obtain ⟨p0, p1, p2⟩ := vd_num a.wf h0
      obtain ⟨q0, q1, q2⟩ := vd_num a.wg h1
      exact rfvalid_any p0 q0 p1.symm q1.symm ((a.cf.congr fun j hj => by unfold Lm; rw [p2 j hj]).below hb) ((a.cg.congr fun j hj => by unfold Lm; rw [q2 j hj]).below hb)
set_option maxHeartbeats 4000000 in
theorem cmp_zero {D0 D1 D2 D3 : Option Addr} {n0 n1 n2 n3 c0 c1 c2 c3 : Nat} {b0 b1 : Bool} {w : World}
    (k0 : ∀ w', Below w.heap.size w w' → Calls Try.prog 19 #[.agg #[.slice D0 n0 c0, .slice D1 n1 c1]] w' fun e w'' => e = .returned (.bool b0) ∧ Below w'.heap.size w' w'')
    (k1 : ∀ w', Below w.heap.size w w' → Calls Try.prog 19 #[.agg #[.slice D2 n2 c2, .slice D3 n3 c3]] w' fun e w'' => e = .returned (.bool b1) ∧ Below w'.heap.size w' w'') (hb : b0 = false ∨ b0 = true ∧ b1 = false) :
    Calls Try.prog 22 #[fv D0 n0 c0 D1 n1 c1, fv D2 n2 c2 D3 n3 c3] w fun e w' => e = .returned (.int .i64 0) ∧ Below w.heap.size w w' := by
  have HK := Lib.hid k0
  have HK2 := Lib.hid k1
  have BS0 := Lib.hid (boxes2F w (.slice D0 n0 c0) (.slice D1 n1 c1) (.slice D2 n2 c2) (.slice D3 n3 c3))
  clear k0 k1
  unfold fv
  rcases hb with rfl | ⟨rfl, rfl⟩
  · go_enter Try.func22, Try.ntmps22
    go_wp2_with fail
    refine (HK.out _ BS0.out.below).mono ?_
    rintro e w1 ⟨rfl, hb1⟩
    have HB := Lib.hid (BS0.out.on hb1).below
    clear hb1
    go_wp2
    go_ret
    exact ⟨rfl, HB.out⟩
  · go_enter Try.func22, Try.ntmps22
    go_wp2_with fail
    refine (HK.out _ BS0.out.below).mono ?_
    rintro e w1 ⟨rfl, hb1⟩
    have BS1 := Lib.hid (BS0.out.on hb1)
    obtain ⟨_, lb, kb⟩ := BS1.out.get (.head _)
    have qa : w1.cell? ⟨w.heap.size + 1, 0, none⟩ = some (.slice D2 n2 c2) := kb.cell 0
    have qb : w1.cell? ⟨w.heap.size + 1, 1, none⟩ = some (.slice D3 n3 c3) := kb.cell 1
    clear hb1 kb BS0
    go_wp2_with fail
    refine (HK2.out _ BS1.out.below).mono ?_
    rintro e w2 ⟨rfl, hb1⟩
    clear qa qb lb
    have HB := Lib.hid (BS1.out.on hb1).below
    clear hb1
    go_wp2
    go_ret
    exact ⟨rfl, HB.out⟩
set_option maxHeartbeats 4000000 in
theorem rcmp_zero {D0 D1 D2 D3 : Option Addr} {n0 n1 n2 n3 c0 c1 c2 c3 : Nat} {b0 b1 : Bool} {w : World}
    (k0 : ∀ w', Below w.heap.size w w' → Calls Try.prog 21 #[.agg #[.slice D0 n0 c0, .slice D1 n1 c1]] w' fun e w'' => e = .returned (.bool b0) ∧ Below w'.heap.size w' w'')
    (k1 : ∀ w', Below w.heap.size w w' → Calls Try.prog 21 #[.agg #[.slice D2 n2 c2, .slice D3 n3 c3]] w' fun e w'' => e = .returned (.bool b1) ∧ Below w'.heap.size w' w'') (hb : b0 = false ∨ b0 = true ∧ b1 = false) :
    Calls Try.prog 23 #[fv D0 n0 c0 D1 n1 c1, fv D2 n2 c2 D3 n3 c3] w fun e w' => e = .returned (.int .i64 0) ∧ Below w.heap.size w w' := by
  have HK := Lib.hid k0
  have HK2 := Lib.hid k1
  have BS0 := Lib.hid (boxes2F w (.slice D0 n0 c0) (.slice D1 n1 c1) (.slice D2 n2 c2) (.slice D3 n3 c3))
  clear k0 k1
  unfold fv
  rcases hb with rfl | ⟨rfl, rfl⟩
  · go_enter Try.func23, Try.ntmps23
    go_wp2_with fail
    refine (HK.out _ BS0.out.below).mono ?_
    rintro e w1 ⟨rfl, hb1⟩
    have HB := Lib.hid (BS0.out.on hb1).below
    clear hb1
    go_wp2
    go_ret
    exact ⟨rfl, HB.out⟩
  · go_enter Try.func23, Try.ntmps23
    go_wp2_with fail
    refine (HK.out _ BS0.out.below).mono ?_
    rintro e w1 ⟨rfl, hb1⟩
    have BS1 := Lib.hid (BS0.out.on hb1)
    obtain ⟨_, lb, kb⟩ := BS1.out.get (.head _)
    have qa : w1.cell? ⟨w.heap.size + 1, 0, none⟩ = some (.slice D2 n2 c2) := kb.cell 0
    have qb : w1.cell? ⟨w.heap.size + 1, 1, none⟩ = some (.slice D3 n3 c3) := kb.cell 1
    clear hb1 kb BS0
    go_wp2_with fail
    refine (HK2.out _ BS1.out.below).mono ?_
    rintro e w2 ⟨rfl, hb1⟩
    clear qa qb lb
    have HB := Lib.hid (BS1.out.on hb1).below
    clear hb1
    go_wp2
    go_ret
    exact ⟨rfl, HB.out⟩
theorem cmp_both {W : World} {D0 E0 D1 E1 : Option Addr} {n0 m0 n1 m1 c0 d0 c1 d1 : Nat} {f0 g0 f1 g1 : Nat → Nat} (a0 : FrArg W D0 n0 c0 f0 E0 m0 d0 g0) (a1 : FrArg W D1 n1 c1 f1 E1 m1 d1 g1) : ∃ v : Int, (∀ w', Below W.heap.size W w' → Calls Try.prog 22 #[fv D0 n0 c0 E0 m0 d0, fv D1 n1 c1 E1 m1 d1] w' fun e w'' => e = .returned (.int .i64 v) ∧ Below w'.heap.size w' w'') ∧ (∀ w', Below W.heap.size W w' → Calls Try.prog 23 #[fv D0 n0 c0 E0 m0 d0, fv D1 n1 c1 E1 m1 d1] w' fun e w'' => e = .returned (.int .i64 v) ∧ Below w'.heap.size w' w'') := by
  by_cases hv : fvd n0 f0 m0 g0 = false ∨ fvd n0 f0 m0 g0 = true ∧ fvd n1 f1 m1 g1 = false
  · exact ⟨0, fun w' hw => cmp_zero (fun w'' h => valid_arg a0 (Below.on hw h)) (fun w'' h => valid_arg a1 (Below.on hw h)) hv, fun w' hw => rcmp_zero (fun w'' h => rvalid_arg a0 (Below.on hw h)) (fun w'' h => rvalid_arg a1 (Below.on hw h)) hv⟩
  · have h0 : fvd n0 f0 m0 g0 = true := by
      cases h : fvd n0 f0 m0 g0 with
      | true => rfl
      | false => exact absurd (.inl h) hv
    have h1 : fvd n1 f1 m1 g1 = true := by
      cases h : fvd n1 f1 m1 g1 with
      | true => rfl
      | false => exact absurd (.inr ⟨h0, h⟩) hv
    have A0 := FrArg.num a0 h0
    have A1 := FrArg.num a1 h1
    exact ⟨_, fun w' hw => cmp_any A0.n64 A0.m64 A1.n64 A1.m64 A0.nx A0.my A1.nx A1.my (A0.cx.below hw) (A0.cy.below hw) (A1.cx.below hw) (A1.cy.below hw), fun w' hw => rfcmp_any A0.n64 A0.m64 A1.n64 A1.m64 A0.nx A0.my A1.nx A1.my (A0.cx.below hw) (A0.cy.below hw) (A1.cx.below hw) (A1.cy.below hw)⟩
set_option maxHeartbeats 4000000 in
theorem out_FracCompares {W : World} {D0 E0 D1 E1 : Option Addr} {n0 m0 n1 m1 c0 d0 c1 d1 : Nat} {b0 b1 : Bool} (hn0 : n0 ≤ 9223372036854775807) (hm0 : m0 ≤ 9223372036854775807) (hn1 : n1 ≤ 9223372036854775807) (hm1 : m1 ≤ 9223372036854775807) (h0 : (decide (n0 ≤ 70) && decide (m0 ≤ 70)) = b0) (h1 : (decide (n1 ≤ 70) && decide (m1 ≤ 70)) = b1) (h : b0 = false ∨ b0 = true ∧ b1 = false) :
    Calls Try.prog 5 #[fv D0 n0 c0 E0 m0 d0, fv D1 n1 c1 E1 m1 d1] W fun e w' => e = .returned (.bool true) ∧ Below W.heap.size W w' := by
  have BS0 := Lib.hid (boxes2F W (.slice D0 n0 c0) (.slice E0 m0 d0) (.slice D1 n1 c1) (.slice E1 m1 d1))
  have S0 := fun w' => brief_any w' (D := D0) (E := E0) (n := n0) (m := m0) (c := c0) (c' := d0) (k := 70) hn0 hm0
  have S1 := fun w' => brief_any w' (D := D1) (E := E1) (n := n1) (m := m1) (c := c1) (c' := d1) (k := 70) hn1 hm1
  rw [h0] at S0
  rw [h1] at S1
  unfold fv at S0 S1 ⊢
  have HS0 := Lib.hid S0
  have HS1 := Lib.hid S1
  clear S0 S1 h0 h1
  rcases h with rfl | ⟨rfl, rfl⟩
  · go_enter Try.func5, Try.ntmps5
    go_wp2_with fail
    refine (HS0.out _).mono ?_
    rintro e wa ⟨rfl, hb⟩
    have BSa := Lib.hid (BS0.out.on hb)
    clear hb
    go_wp2_with fail
    refine (awake_any _).mono ?_
    rintro e w4 ⟨rfl, hb⟩
    have HB := Lib.hid (BSa.out.on hb).below
    clear hb
    go_wp2
    go_ret
    exact ⟨rfl, HB.out⟩
  · go_enter Try.func5, Try.ntmps5
    go_wp2_with fail
    refine (HS0.out _).mono ?_
    rintro e wa ⟨rfl, hb⟩
    have BSa := Lib.hid (BS0.out.on hb)
    obtain ⟨_, t1, k1'⟩ := BSa.out.get (.head _)
    have q0 : wa.cell? ⟨W.heap.size + 1, 0, none⟩ = some (.slice D1 n1 c1) := k1'.cell 0
    have q1 : wa.cell? ⟨W.heap.size + 1, 1, none⟩ = some (.slice E1 m1 d1) := k1'.cell 1
    clear hb BS0 k1'
    go_wp2_with fail
    refine (HS1.out _).mono ?_
    rintro e wb ⟨rfl, hb⟩
    have BSb := Lib.hid (BSa.out.on hb)
    clear hb q0 q1 t1
    go_wp2_with fail
    refine (awake_any _).mono ?_
    rintro e w4 ⟨rfl, hb⟩
    have HB := Lib.hid (BSb.out.on hb).below
    clear hb
    go_wp2
    go_ret
    exact ⟨rfl, HB.out⟩
set_option maxHeartbeats 8000000 in
set_option maxRecDepth 100000 in
theorem in_FracCompares {W : World} {D0 E0 D1 E1 : Option Addr} {n0 m0 n1 m1 c0 d0 c1 d1 : Nat} {b0 b1 : Bool} {v : Int} (hn0 : n0 ≤ 70) (hm0 : m0 ≤ 70) (hn1 : n1 ≤ 70) (hm1 : m1 ≤ 70)
    (k0 : ∀ w', Below W.heap.size W w' → Calls Try.prog 19 #[fv D0 n0 c0 E0 m0 d0] w' fun e w'' => e = .returned (.bool b0) ∧ Below w'.heap.size w' w'') (k1 : ∀ w', Below W.heap.size W w' → Calls Try.prog 21 #[fv D0 n0 c0 E0 m0 d0] w' fun e w'' => e = .returned (.bool b0) ∧ Below w'.heap.size w' w'')
    (k2 : ∀ w', Below W.heap.size W w' → Calls Try.prog 19 #[fv D1 n1 c1 E1 m1 d1] w' fun e w'' => e = .returned (.bool b1) ∧ Below w'.heap.size w' w'') (k3 : ∀ w', Below W.heap.size W w' → Calls Try.prog 21 #[fv D1 n1 c1 E1 m1 d1] w' fun e w'' => e = .returned (.bool b1) ∧ Below w'.heap.size w' w'')
    (k4 : ∀ w', Below W.heap.size W w' → Calls Try.prog 22 #[fv D0 n0 c0 E0 m0 d0, fv D1 n1 c1 E1 m1 d1] w' fun e w'' => e = .returned (.int .i64 v) ∧ Below w'.heap.size w' w'') (k5 : ∀ w', Below W.heap.size W w' → Calls Try.prog 23 #[fv D0 n0 c0 E0 m0 d0, fv D1 n1 c1 E1 m1 d1] w' fun e w'' => e = .returned (.int .i64 v) ∧ Below w'.heap.size w' w'') :
    Calls Try.prog 5 #[fv D0 n0 c0 E0 m0 d0, fv D1 n1 c1 E1 m1 d1] W fun e w' => e = .returned (.bool true) ∧ Below W.heap.size W w' := by
  have BS0 := Lib.hid (boxes2F W (.slice D0 n0 c0) (.slice E0 m0 d0) (.slice D1 n1 c1) (.slice E1 m1 d1))
  have S0 := fun w' => brief_any w' (D := D0) (E := E0) (n := n0) (m := m0) (c := c0) (c' := d0) (k := 70) (by omega) (by omega)
  have S1 := fun w' => brief_any w' (D := D1) (E := E1) (n := n1) (m := m1) (c := c1) (c' := d1) (k := 70) (by omega) (by omega)
  rw [show (decide (n0 ≤ 70) && decide (m0 ≤ 70)) = true by simp; omega] at S0
  rw [show (decide (n1 ≤ 70) && decide (m1 ≤ 70)) = true by simp; omega] at S1
  unfold fv at S0 S1
  have HS0 := Lib.hid S0
  have HS1 := Lib.hid S1
  clear S0 S1
  have hvv : (v == v) = true := by simp
  unfold fv at k0 k1 k2 k3 k4 k5 ⊢
  have K0 := Lib.hid k0
  have K1 := Lib.hid k1
  have K2 := Lib.hid k2
  have K3 := Lib.hid k3
  have K4 := Lib.hid k4
  have K5 := Lib.hid k5
  clear k0 k1 k2 k3 k4 k5
  go_enter Try.func5, Try.ntmps5
  go_wp2_with fail
  refine (HS0.out _).mono ?_
  rintro e wa ⟨rfl, hb⟩
  have BSa := Lib.hid (BS0.out.on hb)
  obtain ⟨_, t1, k1'⟩ := BSa.out.get (.head _)
  have q0 : wa.cell? ⟨W.heap.size + 1, 0, none⟩ = some (.slice D1 n1 c1) := k1'.cell 0
  have q1 : wa.cell? ⟨W.heap.size + 1, 1, none⟩ = some (.slice E1 m1 d1) := k1'.cell 1
  clear hb BS0 k1'
  go_wp2_with fail
  refine (HS1.out _).mono ?_
  rintro e wb ⟨rfl, hb⟩
  have BSb := Lib.hid (BSa.out.on hb)
  clear hb q0 q1 t1 BSa
  have HALL : Hid (∀ w', Below wb.heap.size wb w' → w'.cell? ⟨W.heap.size, 0, none⟩ = some (.slice D0 n0 c0) ∧ w'.cell? ⟨W.heap.size, 1, none⟩ = some (.slice E0 m0 d0) ∧ w'.cell? ⟨W.heap.size + 1, 0, none⟩ = some (.slice D1 n1 c1) ∧ w'.cell? ⟨W.heap.size + 1, 1, none⟩ = some (.slice E1 m1 d1) ∧ Below wb.heap.size wb w') := Lib.hid fun w' hw => by
    have q := ((BSb.out.on hw).get (.tail _ (.head _))).2.2
    have q2 := ((BSb.out.on hw).get (.head _)).2.2
    exact ⟨q.cell 0, q.cell 1, q2.cell 0, q2.cell 1, hw⟩
  have KW : Hid (∀ w', Below wb.heap.size wb w' → Below W.heap.size W w') := Lib.hid fun w' hw => (BSb.out.on hw).below
  have A0 : Below wb.heap.size wb wb.drew := (Below.refl _ _).drew
  have L0 : Hid (∀ w', Below wb.heap.size wb w' → Calls Try.prog 19 #[.agg #[.slice D0 n0 c0, .slice E0 m0 d0]] w' fun e w'' => e = .returned (.bool b0) ∧ Below wb.heap.size wb w'') := Lib.hid fun w' hw => (K0.out w' (KW.out _ hw)).mono fun e w'' ⟨h1, h2⟩ => ⟨h1, Below.on hw h2⟩
  have L1 : Hid (∀ w', Below wb.heap.size wb w' → Calls Try.prog 21 #[.agg #[.slice D0 n0 c0, .slice E0 m0 d0]] w' fun e w'' => e = .returned (.bool b0) ∧ Below wb.heap.size wb w'') := Lib.hid fun w' hw => (K1.out w' (KW.out _ hw)).mono fun e w'' ⟨h1, h2⟩ => ⟨h1, Below.on hw h2⟩
  have L2 : Hid (∀ w', Below wb.heap.size wb w' → Calls Try.prog 19 #[.agg #[.slice D1 n1 c1, .slice E1 m1 d1]] w' fun e w'' => e = .returned (.bool b1) ∧ Below wb.heap.size wb w'') := Lib.hid fun w' hw => (K2.out w' (KW.out _ hw)).mono fun e w'' ⟨h1, h2⟩ => ⟨h1, Below.on hw h2⟩
  have L3 : Hid (∀ w', Below wb.heap.size wb w' → Calls Try.prog 21 #[.agg #[.slice D1 n1 c1, .slice E1 m1 d1]] w' fun e w'' => e = .returned (.bool b1) ∧ Below wb.heap.size wb w'') := Lib.hid fun w' hw => (K3.out w' (KW.out _ hw)).mono fun e w'' ⟨h1, h2⟩ => ⟨h1, Below.on hw h2⟩
  have L4 : Hid (∀ w', Below wb.heap.size wb w' → Calls Try.prog 22 #[.agg #[.slice D0 n0 c0, .slice E0 m0 d0], .agg #[.slice D1 n1 c1, .slice E1 m1 d1]] w' fun e w'' => e = .returned (.int .i64 v) ∧ Below wb.heap.size wb w'') := Lib.hid fun w' hw => (K4.out w' (KW.out _ hw)).mono fun e w'' ⟨h1, h2⟩ => ⟨h1, Below.on hw h2⟩
  have L5 : Hid (∀ w', Below wb.heap.size wb w' → Calls Try.prog 23 #[.agg #[.slice D0 n0 c0, .slice E0 m0 d0], .agg #[.slice D1 n1 c1, .slice E1 m1 d1]] w' fun e w'' => e = .returned (.int .i64 v) ∧ Below wb.heap.size wb w'') := Lib.hid fun w' hw => (K5.out w' (KW.out _ hw)).mono fun e w'' ⟨h1, h2⟩ => ⟨h1, Below.on hw h2⟩
  have LA : Hid (∀ w', Below wb.heap.size wb w' → Calls Try.prog 13 #[] w' fun e w'' => e = .returned (.bool true) ∧ Below wb.heap.size wb w'') := Lib.hid fun w' hw => (awake_any w').mono fun e w'' ⟨h1, h2⟩ => ⟨h1, Below.on hw h2⟩
  clear K0 K1 K2 K3 K4 K5
  go_wp2_with fail
  go_region_held3 (fun w' => w'.cell? ⟨W.heap.size, 0, none⟩ = some (.slice D0 n0 c0) ∧ w'.cell? ⟨W.heap.size, 1, none⟩ = some (.slice E0 m0 d0) ∧ w'.cell? ⟨W.heap.size + 1, 0, none⟩ = some (.slice D1 n1 c1) ∧ w'.cell? ⟨W.heap.size + 1, 1, none⟩ = some (.slice E1 m1 d1) ∧ Below wb.heap.size wb w')
    (first
      | exact HALL.out _ (by assumption))
    (first
      | (go_at_call 19; (with_reducible refine (L0.out _ ?_).mono ?_); (assumption); rintro e2 w2 ⟨rfl, t2⟩)
      | (go_at_call 21; (with_reducible refine (L1.out _ ?_).mono ?_); (assumption); rintro e3 w3 ⟨rfl, t3⟩)
      | (go_at_call 19; (with_reducible refine (L2.out _ ?_).mono ?_); (assumption); rintro e4 w4 ⟨rfl, t4⟩)
      | (go_at_call 21; (with_reducible refine (L3.out _ ?_).mono ?_); (assumption); rintro e5 w5 ⟨rfl, t5⟩)
      | (go_at_call 22; (with_reducible refine (L4.out _ ?_).mono ?_); (assumption); rintro e6 w6 ⟨rfl, t6⟩)
      | (go_at_call 23; (with_reducible refine (L5.out _ ?_).mono ?_); (assumption); rintro e7 w7 ⟨rfl, t7⟩)
      | (go_at_call 13; (with_reducible refine (LA.out _ ?_).mono ?_); (assumption); rintro e9 w9 ⟨rfl, t9⟩)
      | fail)
  all_goals
    have HB := Lib.hid (BSb.out.on t9).below
    clear t9 A0
    go_wp2
    go_ret
    exact ⟨rfl, HB.out⟩
end Fr
theorem fracCompares_walk (W : World) {D0 E0 D1 E1 : Option Addr} {n0 m0 n1 m1 c0 d0 c1 d1 : Nat} {f0 g0 f1 g1 : Nat → Nat} (a0 : FrArg W D0 n0 c0 f0 E0 m0 d0 g0) (a1 : FrArg W D1 n1 c1 f1 E1 m1 d1 g1) :
    Calls Try.prog 5 #[Fr.fv D0 n0 c0 E0 m0 d0, Fr.fv D1 n1 c1 E1 m1 d1] W fun e w' => e = .returned (.bool true) ∧ Below W.heap.size W w' := by
  have hn0 : n0 ≤ 9223372036854775807 := by have := a0.nc; have := a0.cm; unfold maxLen at *; omega
  have hm0 : m0 ≤ 9223372036854775807 := by have := a0.mc; have := a0.cm'; unfold maxLen at *; omega
  have hn1 : n1 ≤ 9223372036854775807 := by have := a1.nc; have := a1.cm; unfold maxLen at *; omega
  have hm1 : m1 ≤ 9223372036854775807 := by have := a1.mc; have := a1.cm'; unfold maxLen at *; omega
  cases h0 : (decide (n0 ≤ 70) && decide (m0 ≤ 70)) with
  | false => exact Fr.out_FracCompares hn0 hm0 hn1 hm1 h0 rfl (.inl rfl)
  | true =>
    cases h1 : (decide (n1 ≤ 70) && decide (m1 ≤ 70)) with
    | false => exact Fr.out_FracCompares hn0 hm0 hn1 hm1 h0 h1 (.inr ⟨rfl, rfl⟩)
    | true =>
      simp only [Bool.and_eq_true, decide_eq_true_eq] at h0 h1
      obtain ⟨v, hk, hr⟩ := Fr.cmp_both a0 a1
      exact Fr.in_FracCompares h0.1 h0.2 h1.1 h1.2 (fun w' hw => Fr.valid_arg a0 hw) (fun w' hw => Fr.rvalid_arg a0 hw) (fun w' hw => Fr.valid_arg a1 hw) (fun w' hw => Fr.rvalid_arg a1 hw) hk hr
end Go.Proofs.Yteclghokkdkolaa
