/- The law FracDecimals. -/
import Derived.Test.YteclghokkdkolaaFrRDec
import Derived.Test.YteclghokkdkolaaFrOpens
import Derived.Test.YteclghokkdkolaaRows
set_option linter.unusedVariables false
namespace Go.Proofs.Yteclghokkdkolaa
open Go.RowKit
namespace Fr
theorem rvalid_arg {W w : World} {D E : Option Addr} {n m c c' : Nat} {f g : Nat → Nat} (a : FrArg W D n c f E m c' g) (hb : Below W.heap.size W w) :
    Calls Try.prog 21 #[fv D n c E m c'] w fun e w' => e = .returned (.bool (fvd n f m g)) ∧ Below w.heap.size w w' := by
  have hn : n ≤ 9223372036854775807 := by have := a.nc; have := a.cm; unfold maxLen at *; omega
  have hm : m ≤ 9223372036854775807 := by have := a.mc; have := a.cm'; unfold maxLen at *; omega
  unfold fvd
  cases h0 : vd n f with
  | false => exact rfvalid_bad hn hm (a.cf.below hb) (a.cg.below hb) (.inl h0)
  | true =>
    cases h1 : vd m g with
    | false => exact rfvalid_bad hn hm (a.cf.below hb) (a.cg.below hb) (.inr ⟨h0, h1⟩)
    | true =>
      obtain ⟨p0, p1, p2⟩ := vd_num a.wf h0
      obtain ⟨q0, q1, q2⟩ := vd_num a.wg h1
      exact rfvalid_any p0 q0 p1.symm q1.symm ((a.cf.congr fun j hj => by unfold Lm; rw [p2 j hj]).below hb) ((a.cg.congr fun j hj => by unfold Lm; rw [q2 j hj]).below hb)
theorem dec_both {W : World} {D0 E0 : Option Addr} {n0 m0 c0 d0 : Nat} {f0 g0 : Nat → Nat} (a0 : FrArg W D0 n0 c0 f0 E0 m0 d0 g0) (x : Int) : ∃ (S : ByteArray) (y : Int), (∀ w', Below W.heap.size W w' → Calls Try.prog 32 #[fv D0 n0 c0 E0 m0 d0, .int .i64 x] w' fun e w'' => e = .returned (.tuple #[.string S, .int .i64 y]) ∧ Below w'.heap.size w' w'') ∧ (∀ w', Below W.heap.size W w' → Calls Try.prog 33 #[fv D0 n0 c0 E0 m0 d0, .int .i64 x] w' fun e w'' => e = .returned (.tuple #[.string S, .int .i64 y]) ∧ Below w'.heap.size w' w'') := by
  by_cases hv : fvd n0 f0 m0 g0 = false ∨ fvd n0 f0 m0 g0 = true ∧ (x < 0 ∨ 18 < x)
  · exact ⟨⟨#[]⟩, 2, fun w' hw => dec_no (fun w'' h => valid_arg a0 (Below.on hw h)) hv, fun w' hw => rdec_no (fun w'' h => rvalid_arg a0 (Below.on hw h)) hv⟩
  · have h0 : fvd n0 f0 m0 g0 = true := by
      cases h : fvd n0 f0 m0 g0 with
      | true => rfl
      | false => exact absurd (.inl h) hv
    have hx : 0 ≤ x ∧ x ≤ 18 := by
      constructor
      · exact Int.not_lt.1 fun h => hv (.inr ⟨h0, .inl h⟩)
      · exact Int.not_lt.1 fun h => hv (.inr ⟨h0, .inr h⟩)
    obtain ⟨k, rfl⟩ := Int.eq_ofNat_of_zero_le hx.1
    have A0 := FrArg.num a0 h0
    have hp := fun (w' : World) (hw : Below W.heap.size W w') => dec_ok (c0 := c0) (c1 := d0) (P := k) A0.n64 A0.m64 A0.nx A0.my (A0.cx.below hw) (A0.cy.below hw) A0.ok (by omega)
    have hr := fun (w' : World) (hw : Below W.heap.size W w') => rdec_ok (c0 := c0) (c1 := d0) (P := k) A0.n64 A0.m64 A0.nx A0.my (A0.cx.below hw) (A0.cy.below hw) A0.ok (by omega)
    by_cases h64 : L32 (v32 f0 n0 * 10 ^ k) ≤ 64
    · refine ⟨dec (v32 f0 n0 * 10 ^ k / v32 g0 m0) k, 0, fun w' hw => (hp w' hw).mono ?_, fun w' hw => (hr w' hw).mono ?_⟩
      all_goals
        rintro e w'' ⟨⟨_, h⟩ | ⟨h, _⟩, hb⟩
        · exact ⟨h, hb⟩
        · omega
    · refine ⟨⟨#[]⟩, 9, fun w' hw => (hp w' hw).mono ?_, fun w' hw => (hr w' hw).mono ?_⟩
      all_goals
        rintro e w'' ⟨⟨h, _⟩ | ⟨_, h⟩, hb⟩
        · omega
        · exact ⟨h, hb⟩
set_option maxHeartbeats 4000000 in
theorem dec_gate {W : World} {D0 E0 : Option Addr} {n0 m0 c0 d0 : Nat} {x : Int} (hn0 : n0 ≤ 9223372036854775807) (hm0 : m0 ≤ 9223372036854775807) (h0 : (decide (n0 ≤ 70) && decide (m0 ≤ 70)) = false) :
    Calls Try.prog 8 #[fv D0 n0 c0 E0 m0 d0, .int .i64 x] W fun e w' => e = .returned (.bool true) ∧ Below W.heap.size W w' := by
  have BS0 := Lib.hid (box1 W (.slice D0 n0 c0) (.slice E0 m0 d0))
  have S0 := fun w' => brief_any w' (D := D0) (E := E0) (n := n0) (m := m0) (c := c0) (c' := d0) (k := 70) hn0 hm0
  rw [h0] at S0
  unfold fv at S0 ⊢
  have HS0 := Lib.hid S0
  clear S0 h0
  go_enter Try.func8, Try.ntmps8
  go_wp2_with fail
  refine (HS0.out _).mono ?_
  rintro e wa ⟨rfl, hb⟩
  have BSa := Lib.hid (BS0.out.on hb)
  clear hb
  go_wp2_with fail
  refine (awake_any _).mono ?_
  rintro e w4 ⟨rfl, hb⟩
  have HB := Lib.hid (BSa.out.on hb).below
  clear hb
  go_wp2
  go_ret
  exact ⟨rfl, HB.out⟩
set_option maxHeartbeats 4000000 in
theorem dec_in {W : World} {D0 E0 : Option Addr} {n0 m0 c0 d0 : Nat} {x y : Int} {S : ByteArray} (hn0 : n0 ≤ 70) (hm0 : m0 ≤ 70) (hk : (∀ w', Below W.heap.size W w' → Calls Try.prog 32 #[fv D0 n0 c0 E0 m0 d0, .int .i64 x] w' fun e w'' => e = .returned (.tuple #[.string S, .int .i64 y]) ∧ Below w'.heap.size w' w'')) (hr : (∀ w', Below W.heap.size W w' → Calls Try.prog 33 #[fv D0 n0 c0 E0 m0 d0, .int .i64 x] w' fun e w'' => e = .returned (.tuple #[.string S, .int .i64 y]) ∧ Below w'.heap.size w' w'')) :
    Calls Try.prog 8 #[fv D0 n0 c0 E0 m0 d0, .int .i64 x] W fun e w' => e = .returned (.bool true) ∧ Below W.heap.size W w' := by
  have BS0 := Lib.hid (box1 W (.slice D0 n0 c0) (.slice E0 m0 d0))
  have S0 := fun w' => brief_any w' (D := D0) (E := E0) (n := n0) (m := m0) (c := c0) (c' := d0) (k := 70) (by omega) (by omega)
  rw [show (decide (n0 ≤ 70) && decide (m0 ≤ 70)) = true by simp; omega] at S0
  have hyy : (y == y) = true := by simp
  have hss : (S.toList == S.toList) = true := by simp
  unfold fv at S0 hk hr ⊢
  have HS0 := Lib.hid S0
  have HK := Lib.hid hk
  have HR := Lib.hid hr
  clear S0 hk hr
  go_enter Try.func8, Try.ntmps8
  go_wp2_with fail
  refine (HS0.out _).mono ?_
  rintro e wa ⟨rfl, hb⟩
  have BSa := Lib.hid (BS0.out.on hb)
  obtain ⟨_, t0, k0'⟩ := BSa.out.get (.head _)
  have qa : wa.cell? ⟨W.heap.size, 0, none⟩ = some (.slice D0 n0 c0) := k0'.cell 0
  have qb : wa.cell? ⟨W.heap.size, 1, none⟩ = some (.slice E0 m0 d0) := k0'.cell 1
  clear hb BS0 k0'
  go_wp2_with fail
  refine (HK.out _ BSa.out.below).mono ?_
  rintro e w1 ⟨rfl, hb⟩
  have BS1 := Lib.hid (BSa.out.on hb)
  clear hb qa qb t0 BSa
  obtain ⟨_, t0, k0'⟩ := BS1.out.get (.head _)
  have qa : w1.cell? ⟨W.heap.size, 0, none⟩ = some (.slice D0 n0 c0) := k0'.cell 0
  have qb : w1.cell? ⟨W.heap.size, 1, none⟩ = some (.slice E0 m0 d0) := k0'.cell 1
  clear k0'
  go_wp2_with fail
  refine (HR.out _ BS1.out.below).mono ?_
  rintro e w2 ⟨rfl, hb⟩
  have BS2 := Lib.hid (BS1.out.on hb)
  clear hb qa qb t0 BS1
  go_wp2_with fail
  refine (awake_any _).mono ?_
  rintro e w4 ⟨rfl, hb⟩
  have HB := Lib.hid (BS2.out.on hb).below
  clear hb
  go_wp2
  go_ret
  exact ⟨rfl, HB.out⟩
end Fr
theorem fracDecimals_walk (W : World) {D0 E0 : Option Addr} {n0 m0 c0 d0 : Nat} {f0 g0 : Nat → Nat} (a0 : FrArg W D0 n0 c0 f0 E0 m0 d0 g0) (x : Int) (hx : (Lit.int .i64 x).wf = true) :
    Calls Try.prog 8 #[Fr.fv D0 n0 c0 E0 m0 d0, .int .i64 x] W fun e w' => e = .returned (.bool true) ∧ Below W.heap.size W w' := by
  have hn0 : n0 ≤ 9223372036854775807 := by have := a0.nc; have := a0.cm; unfold maxLen at *; omega
  have hm0 : m0 ≤ 9223372036854775807 := by have := a0.mc; have := a0.cm'; unfold maxLen at *; omega
  cases h0 : (decide (n0 ≤ 70) && decide (m0 ≤ 70)) with
  | false => exact Fr.dec_gate hn0 hm0 h0
  | true =>
    simp only [Bool.and_eq_true, decide_eq_true_eq] at h0
    obtain ⟨S, y, hk, hr⟩ := Fr.dec_both a0 x
    exact Fr.dec_in h0.1 h0.2 hk hr
end Go.Proofs.Yteclghokkdkolaa
