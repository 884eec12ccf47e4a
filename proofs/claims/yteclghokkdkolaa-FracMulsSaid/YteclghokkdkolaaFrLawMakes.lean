/- Two calls that give the same fraction and the same error; the laws FracMakes and FracOf. -/
import Derived.Test.YteclghokkdkolaaFrRMake
import Derived.Test.YteclghokkdkolaaFrOpens
import Derived.Test.YteclghokkdkolaaNatOpens
import Derived.Test.YteclghokkdkolaaRows
set_option linter.unusedVariables false
namespace Go.Proofs.Yteclghokkdkolaa
open Go.RowKit
namespace Fr
/-- A fraction by numbers, with the error beside it. -/
def Gv (w' : World) (e : Ending) (a b : Nat) (y : Int) : Prop :=
  ∃ (D : Option Addr) (l c : Nat) (E : Option Addr) (m c' : Nat), e = .returned (.tuple #[.agg #[.slice D l c, .slice E m c'], .int .i64 y]) ∧ l ≤ 1000 ∧ m ≤ 1000 ∧ l = L32 a ∧ m = L32 b ∧ Cells w' D l (Lm (d32 a)) ∧ Cells w' E m (Lm (d32 b))
/-- Wherever the call is made after W, it gives this. -/
def Tell (W : World) (f : FuncId) (args : Array Value) (a b : Nat) (y : Int) : Prop :=
  ∀ w', Below W.heap.size W w' → Calls Try.prog f args w' fun e w'' => Gv w'' e a b y ∧ Below w'.heap.size w' w''
/-- Both calls give the same. -/
def Twin (W : World) (f g : FuncId) (args : Array Value) : Prop := ∃ (a b : Nat) (y : Int), Tell W f args a b y ∧ Tell W g args a b y
theorem Gv.res {B : Nat} {w' : World} {e : Ending} {a b : Nat} (h : Res B w' e a b) (ha : L32 a ≤ 64) (hb : L32 b ≤ 64) : Gv w' e a b 0 := by
  obtain ⟨D, c, E, c', rfl, _, _, h1, h2, _, _⟩ := h
  exact ⟨D, _, c, E, _, c', rfl, by omega, by omega, rfl, rfl, h1, h2⟩
theorem Gv.err {w' : World} {e : Ending} {y : Nat} (h : Err e y) : Gv w' e 0 0 (y : Int) := by
  unfold Err at h
  have h0 : L32 0 = 0 := L32_zero.2 rfl
  exact ⟨none, 0, 0, none, 0, 0, h, by omega, by omega, h0.symm, h0.symm, Cells.nil, Cells.nil⟩
theorem Twin.err {W : World} {f g : FuncId} {args : Array Value} (y : Nat)
    (h : ∀ w', Below W.heap.size W w' → Calls Try.prog f args w' fun e w'' => Err e y ∧ Below w'.heap.size w' w'')
    (k : ∀ w', Below W.heap.size W w' → Calls Try.prog g args w' fun e w'' => Err e y ∧ Below w'.heap.size w' w'') : Twin W f g args :=
  ⟨0, 0, y, fun w' hw => (h w' hw).mono fun e w'' ⟨h1, h2⟩ => ⟨Gv.err h1, h2⟩, fun w' hw => (k w' hw).mono fun e w'' ⟨h1, h2⟩ => ⟨Gv.err h1, h2⟩⟩
theorem Twin.res {W : World} {f g : FuncId} {args : Array Value} {a b : Nat} (ha : L32 a ≤ 64) (hb : L32 b ≤ 64)
    (h : ∀ w', Below W.heap.size W w' → Calls Try.prog f args w' fun e w'' => Res w'.heap.size w'' e a b ∧ Below w'.heap.size w' w'')
    (k : ∀ w', Below W.heap.size W w' → Calls Try.prog g args w' fun e w'' => Res w'.heap.size w'' e a b ∧ Below w'.heap.size w' w'') : Twin W f g args :=
  ⟨a, b, 0, fun w' hw => (h w' hw).mono fun e w'' ⟨h1, h2⟩ => ⟨Gv.res h1 ha hb, h2⟩, fun w' hw => (k w' hw).mono fun e w'' ⟨h1, h2⟩ => ⟨Gv.res h1 ha hb, h2⟩⟩
theorem Twin.out {W : World} {f g : FuncId} {args : Array Value} {a b : Nat} {fits : Prop} (ha : fits → L32 a ≤ 64) (hb : fits → L32 b ≤ 64)
    (h : ∀ w', Below W.heap.size W w' → Calls Try.prog f args w' fun e w'' => Out w'.heap.size w'' e fits a b ∧ Below w'.heap.size w' w'')
    (k : ∀ w', Below W.heap.size W w' → Calls Try.prog g args w' fun e w'' => Out w'.heap.size w'' e fits a b ∧ Below w'.heap.size w' w'') : Twin W f g args := by
  by_cases hf : fits
  · refine Twin.res (ha hf) (hb hf) (fun w' hw => (h w' hw).mono ?_) (fun w' hw => (k w' hw).mono ?_)
    · rintro e w'' ⟨⟨_, h1⟩ | ⟨h1, _⟩, h2⟩
      · exact ⟨h1, h2⟩
      · exact absurd hf h1
    · rintro e w'' ⟨⟨_, h1⟩ | ⟨h1, _⟩, h2⟩
      · exact ⟨h1, h2⟩
      · exact absurd hf h1
  · refine Twin.err 9 (fun w' hw => (h w' hw).mono ?_) (fun w' hw => (k w' hw).mono ?_)
    · rintro e w'' ⟨⟨h1, _⟩ | ⟨_, h1⟩, h2⟩
      · exact absurd h1 hf
      · exact ⟨h1, h2⟩
    · rintro e w'' ⟨⟨h1, _⟩ | ⟨_, h1⟩, h2⟩
      · exact absurd h1 hf
      · exact ⟨h1, h2⟩
theorem boxes2N (w : World) (S T : Value) : Bs w ((w.alloc (.cells #[S] TN)).alloc (.cells #[T] TN)) [(w.heap.size + 1, TN, #[T]), (w.heap.size, TN, #[S])] := by
  have := ((Bs.nil w).alloc TN #[S]).alloc TN #[T]
  simp only [World.size_alloc] at this
  exact this
theorem same_eq {D0 D1 D2 D3 : Option Addr} {n0 n1 n2 n3 c0 c1 c2 c3 x0 x1 : Nat} {w : World} (hn0 : n0 ≤ 1000) (hn1 : n1 ≤ 1000) (hn2 : n2 ≤ 1000) (hn3 : n3 ≤ 1000) (h0 : n0 = L32 x0) (h1 : n1 = L32 x1) (h2 : n2 = L32 x0) (h3 : n3 = L32 x1)
    (hx0 : Cells w D0 n0 (Lm (d32 x0))) (hx1 : Cells w D1 n1 (Lm (d32 x1))) (hx2 : Cells w D2 n2 (Lm (d32 x0))) (hx3 : Cells w D3 n3 (Lm (d32 x1))) :
    Calls Try.prog 16 #[fv D0 n0 c0 D1 n1 c1, fv D2 n2 c2 D3 n3 c3] w fun e w' => e = .returned (.bool true) ∧ Below w.heap.size w w' := by
  have := same_any (c0 := c0) (c1 := c1) (c2 := c2) (c3 := c3) hn0 hn1 hn2 hn3 h0 h1 h2 h3 hx0 hx1 hx2 hx3
  simpa using this
set_option maxHeartbeats 4000000 in
set_option maxRecDepth 100000 in
theorem makes_in {W : World} {D E : Option Addr} {n m c c' : Nat} (hn : n ≤ 70) (hm : m ≤ 70) (ht : Twin W 14 15 #[natv D n c, natv E m c']) :
    Calls Try.prog 3 #[natv D n c, natv E m c'] W fun e w' => e = .returned (.bool true) ∧ Below W.heap.size W w' := by
  obtain ⟨a, b, y, hk, hr⟩ := ht
  have BS0 := Lib.hid (boxes2N W (.slice D n c) (.slice E m c'))
  have S0 := fun w' => short_any w' (D := D) (n := n) (c := c) (k := 70) (by omega)
  have S1 := fun w' => short_any w' (D := E) (n := m) (c := c') (k := 70) (by omega)
  rw [show decide (n ≤ 70) = true by simp; omega] at S0
  rw [show decide (m ≤ 70) = true by simp; omega] at S1
  have hyy : (y == y) = true := by simp
  unfold Tell at hk hr
  unfold natv at hk hr S0 S1 ⊢
  have HK := Lib.hid hk
  have HR := Lib.hid hr
  have HS0 := Lib.hid S0
  have HS1 := Lib.hid S1
  clear hk hr S0 S1
  go_enter Try.func3, Try.ntmps3
  go_wp2_with fail
  refine (HS0.out _).mono ?_
  rintro e wa ⟨rfl, hb⟩
  have BSa := Lib.hid (BS0.out.on hb)
  clear hb BS0
  have q1 : wa.cell? ⟨W.heap.size + 1, 0, none⟩ = some (.slice E m c') := (BSa.out.get (.head _)).2.2.cell 0
  go_wp2_with fail
  refine (HS1.out _).mono ?_
  rintro e wb ⟨rfl, hb⟩
  have BSb := Lib.hid (BSa.out.on hb)
  clear hb BSa q1
  have q0 : wb.cell? ⟨W.heap.size, 0, none⟩ = some (.slice D n c) := (BSb.out.get (.tail _ (.head _))).2.2.cell 0
  have q1 : wb.cell? ⟨W.heap.size + 1, 0, none⟩ = some (.slice E m c') := (BSb.out.get (.head _)).2.2.cell 0
  go_wp2_with fail
  refine (HK.out _ BSb.out.below).mono ?_
  rintro e w1 ⟨⟨D1, l1, c1, E1, m1, k1, rfl, a1, b1, hl1, hm1, x1, y1⟩, hb⟩
  have BQ := Lib.hid (BSb.out.on hb)
  have BS1 := Lib.hid (BQ.out.alloc TF #[.slice D1 l1 c1, .slice E1 m1 k1])
  have X1 := Lib.hid (x1.alloc (.cells #[.slice D1 l1 c1, .slice E1 m1 k1] TF))
  have Y1 := Lib.hid (y1.alloc (.cells #[.slice D1 l1 c1, .slice E1 m1 k1] TF))
  have HL1 := Lib.hid hl1
  have HM1 := Lib.hid hm1
  clear hb BSb q0 q1 x1 y1 hl1 hm1
  obtain ⟨_, t0, k0⟩ := BQ.out.get (.tail _ (.head _))
  obtain ⟨_, t1, k1'⟩ := BQ.out.get (.head _)
  have q0 : w1.cell? ⟨W.heap.size, 0, none⟩ = some (.slice D n c) := k0.cell 0
  have q1 : w1.cell? ⟨W.heap.size + 1, 0, none⟩ = some (.slice E m c') := k1'.cell 0
  clear k0 k1'
  go_wp2_with fail
  refine (HR.out _ BS1.out.below).mono ?_
  rintro e w2 ⟨⟨D2, l2, c2, E2, m2, k2, rfl, a2, b2, hl2, hm2, x2, y2⟩, hb⟩
  have BS2 := Lib.hid (BS1.out.on hb)
  have BS3 := Lib.hid (BS2.out.alloc TF #[.slice D2 l2 c2, .slice E2 m2 k2])
  have X2 := Lib.hid (x2.alloc (.cells #[.slice D2 l2 c2, .slice E2 m2 k2] TF))
  have Y2 := Lib.hid (y2.alloc (.cells #[.slice D2 l2 c2, .slice E2 m2 k2] TF))
  replace X1 := Lib.hid ((X1.out.below hb).alloc (.cells #[.slice D2 l2 c2, .slice E2 m2 k2] TF))
  replace Y1 := Lib.hid ((Y1.out.below hb).alloc (.cells #[.slice D2 l2 c2, .slice E2 m2 k2] TF))
  have HL2 := Lib.hid hl2
  have HM2 := Lib.hid hm2
  clear hb q0 q1 t0 t1 BQ BS1 x2 y2 hl2 hm2
  obtain ⟨_, t1, k1'⟩ := BS2.out.get (.head _)
  have q0 : w2.cell? ⟨w1.heap.size, 0, none⟩ = some (.slice D1 l1 c1) := k1'.cell 0
  have q1 : w2.cell? ⟨w1.heap.size, 1, none⟩ = some (.slice E1 m1 k1) := k1'.cell 1
  clear k1'
  go_wp2_with fail
  refine (same_eq a1 b1 a2 b2 HL1.out HM1.out HL2.out HM2.out X1.out Y1.out X2.out Y2.out).mono ?_
  rintro e w3 ⟨rfl, hb⟩
  have BS4 := Lib.hid (BS3.out.on hb)
  clear hb q0 q1 t1 BS2 BS3
  go_wp2_with fail
  refine (awake_any _).mono ?_
  rintro e w4 ⟨rfl, hb⟩
  have HB := Lib.hid (BS4.out.on hb).below
  clear hb
  go_wp2
  go_ret
  exact ⟨rfl, HB.out⟩
set_option maxHeartbeats 4000000 in
theorem makes_out {W : World} {D E : Option Addr} {n m c c' : Nat} (hn : n ≤ 9223372036854775807) (hm : m ≤ 9223372036854775807) (h : 70 < n ∨ n ≤ 70 ∧ 70 < m) :
    Calls Try.prog 3 #[natv D n c, natv E m c'] W fun e w' => e = .returned (.bool true) ∧ Below W.heap.size W w' := by
  have BS0 := Lib.hid (boxes2N W (.slice D n c) (.slice E m c'))
  have S0 := fun w' => short_any w' (D := D) (n := n) (c := c) (k := 70) hn
  have S1 := fun w' => short_any w' (D := E) (n := m) (c := c') (k := 70) hm
  unfold natv at S0 S1 ⊢
  rcases h with h | ⟨h, h'⟩
  · rw [show decide (n ≤ 70) = false by simp; omega] at S0
    have HS0 := Lib.hid S0
    clear S0 S1 h
    go_enter Try.func3, Try.ntmps3
    go_wp2_with fail
    refine (HS0.out _).mono ?_
    rintro e wa ⟨rfl, hb⟩
    have BSa := Lib.hid (BS0.out.on hb)
    clear hb
    go_wp2_with fail
    refine (awake_any _).mono ?_
    rintro e w4 ⟨rfl, hb⟩
    have HB := Lib.hid (BSa.out.on hb).below
    clear hb
    go_wp2
    go_ret
    exact ⟨rfl, HB.out⟩
  · rw [show decide (n ≤ 70) = true by simp; omega] at S0
    rw [show decide (m ≤ 70) = false by simp; omega] at S1
    have HS0 := Lib.hid S0
    have HS1 := Lib.hid S1
    clear S0 S1 h h'
    go_enter Try.func3, Try.ntmps3
    go_wp2_with fail
    refine (HS0.out _).mono ?_
    rintro e wa ⟨rfl, hb⟩
    have BSa := Lib.hid (BS0.out.on hb)
    clear hb BS0
    have q1 : wa.cell? ⟨W.heap.size + 1, 0, none⟩ = some (.slice E m c') := (BSa.out.get (.head _)).2.2.cell 0
    go_wp2_with fail
    refine (HS1.out _).mono ?_
    rintro e wb ⟨rfl, hb⟩
    have BSb := Lib.hid (BSa.out.on hb)
    clear hb q1
    go_wp2_with fail
    refine (awake_any _).mono ?_
    rintro e w4 ⟨rfl, hb⟩
    have HB := Lib.hid (BSb.out.on hb).below
    clear hb
    go_wp2
    go_ret
    exact ⟨rfl, HB.out⟩
theorem make_twin {W : World} {D E : Option Addr} {n m c c' : Nat} {f g : Nat → Nat} (hn : n ≤ 9223372036854775807) (hm : m ≤ 9223372036854775807) (hx : Cells W D n (Lm f)) (hy : Cells W E m (Lm g)) (wf : ∀ j, j < n → f j < 4294967296) (wg : ∀ j, j < m → g j < 4294967296) :
    Twin W 14 15 #[natv D n c, natv E m c'] := by
  by_cases hv : vd n f = false ∨ vd n f = true ∧ vd m g = false
  · exact Twin.err 2 (fun w' hw => make_bad hn hm (hx.below hw) (hy.below hw) hv) (fun w' hw => rmake_bad hn hm (hx.below hw) (hy.below hw) hv)
  · have h0 : vd n f = true := by
      cases h : vd n f with
      | true => rfl
      | false => exact absurd (.inl h) hv
    have h1 : vd m g = true := by
      cases h : vd m g with
      | true => rfl
      | false => exact absurd (.inr ⟨h0, h⟩) hv
    by_cases hm0 : m = 0
    · subst hm0
      exact Twin.err 10 (fun w' hw => make_zero hn (hx.below hw) h0) (fun w' hw => rmake_zero hn (hx.below hw) h0)
    · obtain ⟨p0, p1, p2⟩ := vd_num wf h0
      obtain ⟨q0, q1, q2⟩ := vd_num wg h1
      have hx' : Cells W D n (Lm (d32 (v32 f n))) := hx.congr fun j hj => by unfold Lm; rw [p2 j hj]
      have hy' : Cells W E m (Lm (d32 (v32 g m))) := hy.congr fun j hj => by unfold Lm; rw [q2 j hj]
      have hpos : 0 < v32 g m := by
        rcases Nat.eq_zero_or_pos (v32 g m) with h | h
        · rw [h, L32_zero.2 rfl] at q1
          omega
        · exact h
      exact Twin.res (len_div (by rw [p1]; exact p0)) (len_div (by rw [q1]; exact q0)) (fun w' hw => make_any p0 q0 p1.symm q1.symm (hx'.below hw) (hy'.below hw) hpos) (fun w' hw => rmake_any p0 q0 p1.symm q1.symm (hx'.below hw) (hy'.below hw) hpos)
end Fr
theorem fracMakes_walk (W : World) {D E : Option Addr} {n m c c' : Nat} {f g : Nat → Nat} (hnc : n ≤ c) (hc : c ≤ maxLen) (hx : Cells W D n (Lm f)) (wf : ∀ j, j < n → f j < 4294967296) (hmc : m ≤ c') (hc' : c' ≤ maxLen) (hy : Cells W E m (Lm g)) (wg : ∀ j, j < m → g j < 4294967296) :
    Calls Try.prog 3 #[natv D n c, natv E m c'] W fun e w' => e = .returned (.bool true) ∧ Below W.heap.size W w' := by
  have hn : n ≤ 9223372036854775807 := by unfold maxLen at *; omega
  have hm : m ≤ 9223372036854775807 := by unfold maxLen at *; omega
  by_cases h : 70 < n ∨ n ≤ 70 ∧ 70 < m
  · exact Fr.makes_out hn hm h
  · exact Fr.makes_in (by omega) (by omega) (Fr.make_twin hn hm hx hy wf wg)
end Go.Proofs.Yteclghokkdkolaa
