/- The walk of the law FracOrders. -/
import Derived.Test.YteclghokkdkolaaFrOpens
import Derived.Test.YteclghokkdkolaaRows
set_option linter.unusedVariables false
namespace Go.Proofs.Yteclghokkdkolaa
open Go.RowKit
namespace Fr
theorem fok_cop {x y : Nat} (h : fok x y = true) : 0 < y ∧ Nat.gcd x y = 1 := by
  unfold fok at h
  simp only [Bool.and_eq_true, decide_eq_true_eq, beq_iff_eq] at h
  exact h
theorem cross_eq {a b c d : Nat} (h : fok a b = true) (k : fok c d = true) (e : a * d = c * b) : a = c ∧ b = d := by
  obtain ⟨hb, h1⟩ := fok_cop h
  obtain ⟨hd, k1⟩ := fok_cop k
  have e1 : b ∣ d := by
    have : b ∣ a * d := ⟨c, by rw [e, Nat.mul_comm]⟩
    exact Nat.Coprime.dvd_of_dvd_mul_left (show Nat.Coprime b a from by rw [Nat.Coprime, Nat.gcd_comm]; exact h1) this
  have e2 : d ∣ b := by
    have : d ∣ c * b := ⟨a, by rw [← e, Nat.mul_comm]⟩
    exact Nat.Coprime.dvd_of_dvd_mul_left (show Nat.Coprime d c from by rw [Nat.Coprime, Nat.gcd_comm]; exact k1) this
  have hbd : b = d := Nat.dvd_antisymm e1 e2
  subst hbd
  exact ⟨Nat.eq_of_mul_eq_mul_right hb e, rfl⟩
theorem cmpI_mul {x y k : Nat} (hk : 0 < k) : cmpI (x * k) (y * k) = cmpI x y := by
  unfold cmpI
  have h1 : (x * k < y * k) = (x < y) := propext ⟨fun h => Nat.lt_of_mul_lt_mul_right h, fun h => Nat.mul_lt_mul_of_pos_right h hk⟩
  have h2 : (y * k < x * k) = (y < x) := propext ⟨fun h => Nat.lt_of_mul_lt_mul_right h, fun h => Nat.mul_lt_mul_of_pos_right h hk⟩
  simp only [h1, h2]
theorem cmpI_add {x y k : Nat} : cmpI (x + k) (y + k) = cmpI x y := by
  unfold cmpI
  simp only [Nat.add_lt_add_iff_right]
theorem cmpI_swap (x y : Nat) : cmpI x y = -cmpI y x := by
  unfold cmpI
  rcases Nat.lt_trichotomy x y with h | h | h
  · rw [if_pos h, if_neg (by omega), if_pos h]
  · subst h; simp
  · rw [if_neg (by omega), if_pos h, if_pos h]; rfl
theorem cmpI_zero {x y : Nat} : cmpI x y = 0 ↔ x = y := by
  unfold cmpI
  constructor
  · intro h
    split at h
    · cases h
    · split at h
      · cases h
      · omega
  · rintro rfl; simp
theorem cmpI_self (x : Nat) : cmpI x x = 0 := cmpI_zero.2 rfl
/-- Comparing two fractions in lowest terms. -/
theorem cmpI_red {a b c d g h : Nat} (hg : 0 < g) (hh : 0 < h) (ga : g ∣ a) (gb : g ∣ b) (hc : h ∣ c) (hd : h ∣ d) : cmpI (a / g * (d / h)) (c / h * (b / g)) = cmpI (a * d) (c * b) := by
  obtain ⟨a', rfl⟩ := ga
  obtain ⟨b', rfl⟩ := gb
  obtain ⟨c', rfl⟩ := hc
  obtain ⟨d', rfl⟩ := hd
  rw [Nat.mul_div_cancel_left _ hg, Nat.mul_div_cancel_left _ hg, Nat.mul_div_cancel_left _ hh, Nat.mul_div_cancel_left _ hh]
  rw [show g * a' * (h * d') = a' * d' * (g * h) by simp only [Nat.mul_comm, Nat.mul_left_comm], show h * c' * (g * b') = c' * b' * (g * h) by simp only [Nat.mul_comm, Nat.mul_left_comm]]
  exact (cmpI_mul (Nat.mul_pos hg hh)).symm
theorem cmp_sum {a b c d e f : Nat} (hf : 0 < f) :
    cmpI ((a * f + e * b) * (d * f)) ((c * f + e * d) * (b * f)) = cmpI (a * d) (c * b) := by
  have e1 : (a * f + e * b) * (d * f) = a * d * (f * f) + e * b * d * f := by rw [Nat.add_mul]; simp only [ Nat.mul_comm, Nat.mul_left_comm]
  have e2 : (c * f + e * d) * (b * f) = c * b * (f * f) + e * b * d * f := by rw [Nat.add_mul]; simp only [ Nat.mul_comm, Nat.mul_left_comm]
  rw [e1, e2, cmpI_add, cmpI_mul (Nat.mul_pos hf hf)]
theorem fits8 {x y : Nat} (hx : L32 x ≤ 8) (hy : L32 y ≤ 8) : Fit32 (x * y) 16 := fit32_mono (fit32_mul (fit32_mono (fit32_len x) hx) (fit32_mono (fit32_len y) hy)) (Nat.le_refl _)
theorem fit_add {x y n : Nat} (hx : Fit32 x n) (hy : Fit32 y n) : Fit32 (x + y) (n + 1) := by
  unfold Fit32 at *
  rw [Nat.pow_succ]
  omega
/-- Sums of fractions of at most eight limbs fit. -/
theorem fits_add8 {xn xd yn yd : Nat} (h0 : L32 xn ≤ 8) (h1 : L32 xd ≤ 8) (h2 : L32 yn ≤ 8) (h3 : L32 yd ≤ 8) : fits_add xn xd yn yd := by
  refine ⟨?_, ?_, ?_, ?_⟩
  · exact Nat.le_trans (fit32_le (fits8 h0 h3)) (by omega)
  · exact Nat.le_trans (fit32_le (fits8 h2 h1)) (by omega)
  · exact Nat.le_trans (fit32_le (fits8 h1 h3)) (by omega)
  · exact Nat.le_trans (fit32_le (fit_add (fits8 h0 h3) (fits8 h2 h1))) (by omega)
theorem add8 {xn xd yn yd : Nat} {w : World} {D0 D1 D2 D3 : Option Addr} {n0 n1 n2 n3 c0 c1 c2 c3 : Nat} (a : FrNum w D0 n0 D1 n1 xn xd) (b : FrNum w D2 n2 D3 n3 yn yd) (h0 : n0 ≤ 8) (h1 : n1 ≤ 8) (h2 : n2 ≤ 8) (h3 : n3 ≤ 8) :
    Calls Try.prog 24 #[fv D0 n0 c0 D1 n1 c1, fv D2 n2 c2 D3 n3 c3] w fun e w' => (∃ (D : Option Addr) (l c : Nat) (E : Option Addr) (m c' : Nat), e = .returned (.tuple #[fv D l c E m c', .int .i64 0]) ∧ FrNum w' D l E m ((xn * yd + yn * xd) / Nat.gcd (xn * yd + yn * xd) (xd * yd)) ((xd * yd) / Nat.gcd (xn * yd + yn * xd) (xd * yd))) ∧ Below w.heap.size w w' := by
  refine (add_ok a.n64 a.m64 b.n64 b.m64 a.nx a.my b.nx b.my a.cx a.cy b.cx b.cy a.ok b.ok).mono ?_
  rintro e w' ⟨⟨hf, D, c, E, c', he, _, _, hc, hd, _, _⟩ | ⟨h, _⟩, hb⟩
  · refine ⟨⟨D, _, c, E, _, c', he, ⟨len_div hf.2.2.2, len_div hf.2.2.1, rfl, rfl, hc, hd, ?_⟩⟩, hb⟩
    exact fok_low (Nat.mul_pos (fok_pos a.ok) (fok_pos b.ok))
  · exact absurd (fits_add8 (by rw [← a.nx]; exact h0) (by rw [← a.my]; exact h1) (by rw [← b.nx]; exact h2) (by rw [← b.my]; exact h3)) h
theorem FrNum.below {W w : World} {D E : Option Addr} {n m x y : Nat} (a : FrNum W D n E m x y) (h : Below W.heap.size W w) : FrNum w D n E m x y := ⟨a.n64, a.m64, a.nx, a.my, a.cx.below h, a.cy.below h, a.ok⟩
theorem cmp_num {xn xd yn yd : Nat} {w : World} {D0 D1 D2 D3 : Option Addr} {n0 n1 n2 n3 c0 c1 c2 c3 : Nat} (a : FrNum w D0 n0 D1 n1 xn xd) (b : FrNum w D2 n2 D3 n3 yn yd) {v : Int} (hv : cmpI (xn * yd) (yn * xd) = v) :
    Calls Try.prog 22 #[fv D0 n0 c0 D1 n1 c1, fv D2 n2 c2 D3 n3 c3] w fun e w' => e = .returned (.int .i64 v) ∧ Below w.heap.size w w' := by
  have := cmp_any (c0 := c0) (c1 := c1) (c2 := c2) (c3 := c3) a.n64 a.m64 b.n64 b.m64 a.nx a.my b.nx b.my a.cx a.cy b.cx b.cy
  rw [if_pos ⟨a.ok, b.ok⟩, hv] at this
  exact this
theorem same_num {xn xd yn yd : Nat} {w : World} {D0 D1 D2 D3 : Option Addr} {n0 n1 n2 n3 c0 c1 c2 c3 : Nat} (a : FrNum w D0 n0 D1 n1 xn xd) (b : FrNum w D2 n2 D3 n3 yn yd) {v : Bool} (hv : (decide (xn = yn) && decide (xd = yd)) = v) :
    Calls Try.prog 16 #[fv D0 n0 c0 D1 n1 c1, fv D2 n2 c2 D3 n3 c3] w fun e w' => e = .returned (.bool v) ∧ Below w.heap.size w w' := by
  subst hv
  have := a.n64
  have := a.m64
  have := b.n64
  have := b.m64
  exact same_any (by omega) (by omega) (by omega) (by omega) a.nx a.my b.nx b.my a.cx a.cy b.cx b.cy
theorem boxes3F (w : World) (S T U V X Y : Value) : Bs w (((w.alloc (.cells #[S, T] TF)).alloc (.cells #[U, V] TF)).alloc (.cells #[X, Y] TF)) [(w.heap.size + 1 + 1, TF, #[X, Y]), (w.heap.size + 1, TF, #[U, V]), (w.heap.size, TF, #[S, T])] := by
  have := (((Bs.nil w).alloc TF #[S, T]).alloc TF #[U, V]).alloc TF #[X, Y]
  simp only [World.size_alloc] at this
  exact this
set_option maxHeartbeats 8000000 in
set_option maxRecDepth 100000 in
theorem gate_FracOrders {W : World} {D0 E0 D1 E1 D2 E2 : Option Addr} {n0 m0 n1 m1 n2 m2 c0 d0 c1 d1 c2 d2 : Nat} {f0 g0 f1 g1 f2 g2 : Nat → Nat} (a0 : FrArg W D0 n0 c0 f0 E0 m0 d0 g0) (a1 : FrArg W D1 n1 c1 f1 E1 m1 d1 g1) (a2 : FrArg W D2 n2 c2 f2 E2 m2 d2 g2) {b0 b1 b2 v0 v1 v2 : Bool} (hb0 : (decide (n0 ≤ 8) && decide (m0 ≤ 8)) = b0) (hb1 : (decide (n1 ≤ 8) && decide (m1 ≤ 8)) = b1) (hb2 : (decide (n2 ≤ 8) && decide (m2 ≤ 8)) = b2) (hv0 : fvd n0 f0 m0 g0 = v0) (hv1 : fvd n1 f1 m1 g1 = v1) (hv2 : fvd n2 f2 m2 g2 = v2)
    (h : (b0 && b1 && b2 && v0 && v1 && v2) = false) :
    Calls Try.prog 10 #[fv D0 n0 c0 E0 m0 d0, fv D1 n1 c1 E1 m1 d1, fv D2 n2 c2 E2 m2 d2] W fun e w' => e = .returned (.bool true) ∧ Below W.heap.size W w' := by
  have BS0 := Lib.hid (boxes3F W (.slice D0 n0 c0) (.slice E0 m0 d0) (.slice D1 n1 c1) (.slice E1 m1 d1) (.slice D2 n2 c2) (.slice E2 m2 d2))
  have KB0 := fun w' => brief_any w' (D := D0) (E := E0) (n := n0) (m := m0) (c := c0) (c' := d0) (k := 8) (by have := a0.nc; have := a0.cm; unfold maxLen at *; omega) (by have := a0.mc; have := a0.cm'; unfold maxLen at *; omega)
  rw [hb0] at KB0
  have KB1 := fun w' => brief_any w' (D := D1) (E := E1) (n := n1) (m := m1) (c := c1) (c' := d1) (k := 8) (by have := a1.nc; have := a1.cm; unfold maxLen at *; omega) (by have := a1.mc; have := a1.cm'; unfold maxLen at *; omega)
  rw [hb1] at KB1
  have KB2 := fun w' => brief_any w' (D := D2) (E := E2) (n := n2) (m := m2) (c := c2) (c' := d2) (k := 8) (by have := a2.nc; have := a2.cm; unfold maxLen at *; omega) (by have := a2.mc; have := a2.cm'; unfold maxLen at *; omega)
  rw [hb2] at KB2
  have KV0 := fun (w' : World) (hw : Below W.heap.size W w') => valid_arg a0 hw
  rw [hv0] at KV0
  have KV1 := fun (w' : World) (hw : Below W.heap.size W w') => valid_arg a1 hw
  rw [hv1] at KV1
  have KV2 := fun (w' : World) (hw : Below W.heap.size W w') => valid_arg a2 hw
  rw [hv2] at KV2
  unfold fv at KB0 KB1 KB2 KV0 KV1 KV2 ⊢
  have B0 := Lib.hid KB0
  have V0 := Lib.hid KV0
  have B1 := Lib.hid KB1
  have V1 := Lib.hid KV1
  have B2 := Lib.hid KB2
  have V2 := Lib.hid KV2
  clear KB0 KB1 KB2 KV0 KV1 KV2 hb0 hb1 hb2 hv0 hv1 hv2 a0 a1 a2
  cases b0 with
  | false =>
    clear h
    go_enter Try.func10, Try.ntmps10
    go_wp2_with fail
    refine (B0.out _).mono ?_
    rintro e w1 ⟨rfl, hb⟩
    have BS1 := Lib.hid (BS0.out.on hb)
    clear hb
    go_wp2_with fail
    refine (awake_any _).mono ?_
    rintro e w9 ⟨rfl, hb⟩
    have HB := Lib.hid (BS1.out.on hb).below
    clear hb
    go_wp2
    go_ret
    exact ⟨rfl, HB.out⟩
  | true =>
    cases b1 with
    | false =>
      clear h
      go_enter Try.func10, Try.ntmps10
      go_wp2_with fail
      refine (B0.out _).mono ?_
      rintro e w1 ⟨rfl, hb⟩
      have BS1 := Lib.hid (BS0.out.on hb)
      clear hb
      have q := (BS1.out.get (.tail _ (.head _)))
      have ql := q.2.1
      have q0 : w1.cell? ⟨W.heap.size + 1, 0, none⟩ = some (.slice D1 n1 c1) := q.2.2.cell 0
      have q1 : w1.cell? ⟨W.heap.size + 1, 1, none⟩ = some (.slice E1 m1 d1) := q.2.2.cell 1
      clear q
      go_wp2_with fail
      refine (B1.out _).mono ?_
      rintro e w2 ⟨rfl, hb⟩
      have BS2 := Lib.hid (BS1.out.on hb)
      clear hb q0 q1 ql
      go_wp2_with fail
      refine (awake_any _).mono ?_
      rintro e w9 ⟨rfl, hb⟩
      have HB := Lib.hid (BS2.out.on hb).below
      clear hb
      go_wp2
      go_ret
      exact ⟨rfl, HB.out⟩
    | true =>
      cases b2 with
      | false =>
        clear h
        go_enter Try.func10, Try.ntmps10
        go_wp2_with fail
        refine (B0.out _).mono ?_
        rintro e w1 ⟨rfl, hb⟩
        have BS1 := Lib.hid (BS0.out.on hb)
        clear hb
        have q := (BS1.out.get (.tail _ (.head _)))
        have ql := q.2.1
        have q0 : w1.cell? ⟨W.heap.size + 1, 0, none⟩ = some (.slice D1 n1 c1) := q.2.2.cell 0
        have q1 : w1.cell? ⟨W.heap.size + 1, 1, none⟩ = some (.slice E1 m1 d1) := q.2.2.cell 1
        clear q
        go_wp2_with fail
        refine (B1.out _).mono ?_
        rintro e w2 ⟨rfl, hb⟩
        have BS2 := Lib.hid (BS1.out.on hb)
        clear hb q0 q1 ql
        have q := (BS2.out.get (.head _))
        have ql := q.2.1
        have q0 : w2.cell? ⟨W.heap.size + 1 + 1, 0, none⟩ = some (.slice D2 n2 c2) := q.2.2.cell 0
        have q1 : w2.cell? ⟨W.heap.size + 1 + 1, 1, none⟩ = some (.slice E2 m2 d2) := q.2.2.cell 1
        clear q
        go_wp2_with fail
        refine (B2.out _).mono ?_
        rintro e w3 ⟨rfl, hb⟩
        have BS3 := Lib.hid (BS2.out.on hb)
        clear hb q0 q1 ql
        go_wp2_with fail
        refine (awake_any _).mono ?_
        rintro e w9 ⟨rfl, hb⟩
        have HB := Lib.hid (BS3.out.on hb).below
        clear hb
        go_wp2
        go_ret
        exact ⟨rfl, HB.out⟩
      | true =>
        cases v0 with
        | false =>
          clear h
          go_enter Try.func10, Try.ntmps10
          go_wp2_with fail
          refine (B0.out _).mono ?_
          rintro e w1 ⟨rfl, hb⟩
          have BS1 := Lib.hid (BS0.out.on hb)
          clear hb
          have q := (BS1.out.get (.tail _ (.head _)))
          have ql := q.2.1
          have q0 : w1.cell? ⟨W.heap.size + 1, 0, none⟩ = some (.slice D1 n1 c1) := q.2.2.cell 0
          have q1 : w1.cell? ⟨W.heap.size + 1, 1, none⟩ = some (.slice E1 m1 d1) := q.2.2.cell 1
          clear q
          go_wp2_with fail
          refine (B1.out _).mono ?_
          rintro e w2 ⟨rfl, hb⟩
          have BS2 := Lib.hid (BS1.out.on hb)
          clear hb q0 q1 ql
          have q := (BS2.out.get (.head _))
          have ql := q.2.1
          have q0 : w2.cell? ⟨W.heap.size + 1 + 1, 0, none⟩ = some (.slice D2 n2 c2) := q.2.2.cell 0
          have q1 : w2.cell? ⟨W.heap.size + 1 + 1, 1, none⟩ = some (.slice E2 m2 d2) := q.2.2.cell 1
          clear q
          go_wp2_with fail
          refine (B2.out _).mono ?_
          rintro e w3 ⟨rfl, hb⟩
          have BS3 := Lib.hid (BS2.out.on hb)
          clear hb q0 q1 ql
          have q := (BS3.out.get (.tail _ (.tail _ (.head _))))
          have ql := q.2.1
          have q0 : w3.cell? ⟨W.heap.size, 0, none⟩ = some (.slice D0 n0 c0) := q.2.2.cell 0
          have q1 : w3.cell? ⟨W.heap.size, 1, none⟩ = some (.slice E0 m0 d0) := q.2.2.cell 1
          clear q
          go_wp2_with fail
          refine (V0.out _ BS3.out.below).mono ?_
          rintro e w4 ⟨rfl, hb⟩
          have BS4 := Lib.hid (BS3.out.on hb)
          clear hb q0 q1 ql
          go_wp2_with fail
          refine (awake_any _).mono ?_
          rintro e w9 ⟨rfl, hb⟩
          have HB := Lib.hid (BS4.out.on hb).below
          clear hb
          go_wp2
          go_ret
          exact ⟨rfl, HB.out⟩
        | true =>
          cases v1 with
          | false =>
            clear h
            go_enter Try.func10, Try.ntmps10
            go_wp2_with fail
            refine (B0.out _).mono ?_
            rintro e w1 ⟨rfl, hb⟩
            have BS1 := Lib.hid (BS0.out.on hb)
            clear hb
            have q := (BS1.out.get (.tail _ (.head _)))
            have ql := q.2.1
            have q0 : w1.cell? ⟨W.heap.size + 1, 0, none⟩ = some (.slice D1 n1 c1) := q.2.2.cell 0
            have q1 : w1.cell? ⟨W.heap.size + 1, 1, none⟩ = some (.slice E1 m1 d1) := q.2.2.cell 1
            clear q
            go_wp2_with fail
            refine (B1.out _).mono ?_
            rintro e w2 ⟨rfl, hb⟩
            have BS2 := Lib.hid (BS1.out.on hb)
            clear hb q0 q1 ql
            have q := (BS2.out.get (.head _))
            have ql := q.2.1
            have q0 : w2.cell? ⟨W.heap.size + 1 + 1, 0, none⟩ = some (.slice D2 n2 c2) := q.2.2.cell 0
            have q1 : w2.cell? ⟨W.heap.size + 1 + 1, 1, none⟩ = some (.slice E2 m2 d2) := q.2.2.cell 1
            clear q
            go_wp2_with fail
            refine (B2.out _).mono ?_
            rintro e w3 ⟨rfl, hb⟩
            have BS3 := Lib.hid (BS2.out.on hb)
            clear hb q0 q1 ql
            have q := (BS3.out.get (.tail _ (.tail _ (.head _))))
            have ql := q.2.1
            have q0 : w3.cell? ⟨W.heap.size, 0, none⟩ = some (.slice D0 n0 c0) := q.2.2.cell 0
            have q1 : w3.cell? ⟨W.heap.size, 1, none⟩ = some (.slice E0 m0 d0) := q.2.2.cell 1
            clear q
            go_wp2_with fail
            refine (V0.out _ BS3.out.below).mono ?_
            rintro e w4 ⟨rfl, hb⟩
            have BS4 := Lib.hid (BS3.out.on hb)
            clear hb q0 q1 ql
            have q := (BS4.out.get (.tail _ (.head _)))
            have ql := q.2.1
            have q0 : w4.cell? ⟨W.heap.size + 1, 0, none⟩ = some (.slice D1 n1 c1) := q.2.2.cell 0
            have q1 : w4.cell? ⟨W.heap.size + 1, 1, none⟩ = some (.slice E1 m1 d1) := q.2.2.cell 1
            clear q
            go_wp2_with fail
            refine (V1.out _ BS4.out.below).mono ?_
            rintro e w5 ⟨rfl, hb⟩
            have BS5 := Lib.hid (BS4.out.on hb)
            clear hb q0 q1 ql
            go_wp2_with fail
            refine (awake_any _).mono ?_
            rintro e w9 ⟨rfl, hb⟩
            have HB := Lib.hid (BS5.out.on hb).below
            clear hb
            go_wp2
            go_ret
            exact ⟨rfl, HB.out⟩
          | true =>
            cases v2 with
            | false =>
              clear h
              go_enter Try.func10, Try.ntmps10
              go_wp2_with fail
              refine (B0.out _).mono ?_
              rintro e w1 ⟨rfl, hb⟩
              have BS1 := Lib.hid (BS0.out.on hb)
              clear hb
              have q := (BS1.out.get (.tail _ (.head _)))
              have ql := q.2.1
              have q0 : w1.cell? ⟨W.heap.size + 1, 0, none⟩ = some (.slice D1 n1 c1) := q.2.2.cell 0
              have q1 : w1.cell? ⟨W.heap.size + 1, 1, none⟩ = some (.slice E1 m1 d1) := q.2.2.cell 1
              clear q
              go_wp2_with fail
              refine (B1.out _).mono ?_
              rintro e w2 ⟨rfl, hb⟩
              have BS2 := Lib.hid (BS1.out.on hb)
              clear hb q0 q1 ql
              have q := (BS2.out.get (.head _))
              have ql := q.2.1
              have q0 : w2.cell? ⟨W.heap.size + 1 + 1, 0, none⟩ = some (.slice D2 n2 c2) := q.2.2.cell 0
              have q1 : w2.cell? ⟨W.heap.size + 1 + 1, 1, none⟩ = some (.slice E2 m2 d2) := q.2.2.cell 1
              clear q
              go_wp2_with fail
              refine (B2.out _).mono ?_
              rintro e w3 ⟨rfl, hb⟩
              have BS3 := Lib.hid (BS2.out.on hb)
              clear hb q0 q1 ql
              have q := (BS3.out.get (.tail _ (.tail _ (.head _))))
              have ql := q.2.1
              have q0 : w3.cell? ⟨W.heap.size, 0, none⟩ = some (.slice D0 n0 c0) := q.2.2.cell 0
              have q1 : w3.cell? ⟨W.heap.size, 1, none⟩ = some (.slice E0 m0 d0) := q.2.2.cell 1
              clear q
              go_wp2_with fail
              refine (V0.out _ BS3.out.below).mono ?_
              rintro e w4 ⟨rfl, hb⟩
              have BS4 := Lib.hid (BS3.out.on hb)
              clear hb q0 q1 ql
              have q := (BS4.out.get (.tail _ (.head _)))
              have ql := q.2.1
              have q0 : w4.cell? ⟨W.heap.size + 1, 0, none⟩ = some (.slice D1 n1 c1) := q.2.2.cell 0
              have q1 : w4.cell? ⟨W.heap.size + 1, 1, none⟩ = some (.slice E1 m1 d1) := q.2.2.cell 1
              clear q
              go_wp2_with fail
              refine (V1.out _ BS4.out.below).mono ?_
              rintro e w5 ⟨rfl, hb⟩
              have BS5 := Lib.hid (BS4.out.on hb)
              clear hb q0 q1 ql
              have q := (BS5.out.get (.head _))
              have ql := q.2.1
              have q0 : w5.cell? ⟨W.heap.size + 1 + 1, 0, none⟩ = some (.slice D2 n2 c2) := q.2.2.cell 0
              have q1 : w5.cell? ⟨W.heap.size + 1 + 1, 1, none⟩ = some (.slice E2 m2 d2) := q.2.2.cell 1
              clear q
              go_wp2_with fail
              refine (V2.out _ BS5.out.below).mono ?_
              rintro e w6 ⟨rfl, hb⟩
              have BS6 := Lib.hid (BS5.out.on hb)
              clear hb q0 q1 ql
              go_wp2_with fail
              refine (awake_any _).mono ?_
              rintro e w9 ⟨rfl, hb⟩
              have HB := Lib.hid (BS6.out.on hb).below
              clear hb
              go_wp2
              go_ret
              exact ⟨rfl, HB.out⟩
            | true =>
              simp at h
set_option maxHeartbeats 8000000 in
set_option maxRecDepth 100000 in
theorem orders_in {W : World} {D0 E0 D1 E1 D2 E2 : Option Addr} {n0 m0 n1 m1 n2 m2 c0 d0 c1 d1 c2 d2 x0 y0 x1 y1 x2 y2 : Nat} (A0 : FrNum W D0 n0 E0 m0 x0 y0) (A1 : FrNum W D1 n1 E1 m1 x1 y1) (A2 : FrNum W D2 n2 E2 m2 x2 y2)
    (h0 : n0 ≤ 8) (k0 : m0 ≤ 8) (h1 : n1 ≤ 8) (k1 : m1 ≤ 8) (h2 : n2 ≤ 8) (k2 : m2 ≤ 8) :
    Calls Try.prog 10 #[fv D0 n0 c0 E0 m0 d0, fv D1 n1 c1 E1 m1 d1, fv D2 n2 c2 E2 m2 d2] W fun e w' => e = .returned (.bool true) ∧ Below W.heap.size W w' := by
  have BS0 := Lib.hid (boxes3F W (.slice D0 n0 c0) (.slice E0 m0 d0) (.slice D1 n1 c1) (.slice E1 m1 d1) (.slice D2 n2 c2) (.slice E2 m2 d2))
  have KB0 := fun w' => brief_any w' (D := D0) (E := E0) (n := n0) (m := m0) (c := c0) (c' := d0) (k := 8) (by omega) (by omega)
  rw [show (decide (n0 ≤ 8) && decide (m0 ≤ 8)) = true by simp; omega] at KB0
  have KV0 := fun (w' : World) (hw : Below W.heap.size W w') => valid_any (c := c0) (c' := d0) A0.n64 A0.m64 A0.nx A0.my (A0.cx.below hw) (A0.cy.below hw)
  rw [A0.ok] at KV0
  have KB1 := fun w' => brief_any w' (D := D1) (E := E1) (n := n1) (m := m1) (c := c1) (c' := d1) (k := 8) (by omega) (by omega)
  rw [show (decide (n1 ≤ 8) && decide (m1 ≤ 8)) = true by simp; omega] at KB1
  have KV1 := fun (w' : World) (hw : Below W.heap.size W w') => valid_any (c := c1) (c' := d1) A1.n64 A1.m64 A1.nx A1.my (A1.cx.below hw) (A1.cy.below hw)
  rw [A1.ok] at KV1
  have KB2 := fun w' => brief_any w' (D := D2) (E := E2) (n := n2) (m := m2) (c := c2) (c' := d2) (k := 8) (by omega) (by omega)
  rw [show (decide (n2 ≤ 8) && decide (m2 ≤ 8)) = true by simp; omega] at KB2
  have KV2 := fun (w' : World) (hw : Below W.heap.size W w') => valid_any (c := c2) (c' := d2) A2.n64 A2.m64 A2.nx A2.my (A2.cx.below hw) (A2.cy.below hw)
  rw [A2.ok] at KV2
  obtain ⟨cv, hcv⟩ : ∃ v, v = cmpI (x0 * y1) (x1 * y0) := ⟨_, rfl⟩
  obtain ⟨cg, hcg⟩ : ∃ v, v = cmpI (x1 * y0) (x0 * y1) := ⟨_, rfl⟩
  have hneg : -cg = cv := by rw [hcv, hcg]; exact (cmpI_swap _ _).symm
  have hcb : -1 ≤ cg ∧ cg ≤ 1 := by
    rw [hcg]
    unfold cmpI
    split
    · omega
    · split <;> omega
  have hw : IntKind.i64.wrap (-cg) = cv := by rw [IntWalk.i64_in _ (by omega)]; exact hneg
  have HSM : Hid ((decide (x0 = x1) && decide (y0 = y1)) = (cv == 0)) := Lib.hid (by
    by_cases hz : cv = 0
    · obtain ⟨e1, e2⟩ := cross_eq A0.ok A1.ok (cmpI_zero.1 (hcv.symm.trans hz))
      rw [hz, decide_eq_true e1, decide_eq_true e2]; rfl
    · rw [beq_eq_false_iff_ne.2 hz]
      by_cases e1 : x0 = x1
      · by_cases e2 : y0 = y1
        · exact absurd (by rw [hcv, e1, e2]; exact cmpI_self _) hz
        · rw [decide_eq_false e2, Bool.and_false]
      · rw [decide_eq_false e1, Bool.false_and])
  have p0 := fok_pos A0.ok
  have p1 := fok_pos A1.ok
  have p2 := fok_pos A2.ok
  have HXY : Hid (cmpI ((x0 * y2 + x2 * y0) / Nat.gcd (x0 * y2 + x2 * y0) (y0 * y2) * ((y1 * y2) / Nat.gcd (x1 * y2 + x2 * y1) (y1 * y2))) ((x1 * y2 + x2 * y1) / Nat.gcd (x1 * y2 + x2 * y1) (y1 * y2) * ((y0 * y2) / Nat.gcd (x0 * y2 + x2 * y0) (y0 * y2))) = cv) := Lib.hid (by
    rw [cmpI_red (Nat.gcd_pos_of_pos_right _ (Nat.mul_pos p0 p2)) (Nat.gcd_pos_of_pos_right _ (Nat.mul_pos p1 p2)) (Nat.gcd_dvd_left _ _) (Nat.gcd_dvd_right _ _) (Nat.gcd_dvd_left _ _) (Nat.gcd_dvd_right _ _), cmp_sum p2, hcv])
  have HCV := Lib.hid hcv.symm
  have HCG := Lib.hid hcg.symm
  have HA0 := Lib.hid A0
  have HA1 := Lib.hid A1
  have HA2 := Lib.hid A2
  unfold fv at KB0 KB1 KB2 KV0 KV1 KV2 ⊢
  have B0 := Lib.hid KB0
  have B1 := Lib.hid KB1
  have B2 := Lib.hid KB2
  have V0 := Lib.hid KV0
  have V1 := Lib.hid KV1
  have V2 := Lib.hid KV2
  clear KB0 KB1 KB2 KV0 KV1 KV2 hcv hcg hneg hcb p0 p1 p2 A0 A1 A2
  go_enter Try.func10, Try.ntmps10
  go_wp2_with fail
  refine (B0.out _).mono ?_
  rintro e w1 ⟨rfl, hb⟩
  have BS1 := Lib.hid (BS0.out.on hb)
  clear hb BS0 
  have q := (BS1.out.get (.tail _ (.head _)))
  have ql1 := q.2.1
  have qa1 : w1.cell? ⟨W.heap.size + 1, 0, none⟩ = some (.slice D1 n1 c1) := q.2.2.cell 0
  have qb1 : w1.cell? ⟨W.heap.size + 1, 1, none⟩ = some (.slice E1 m1 d1) := q.2.2.cell 1
  clear q
  go_wp2_with fail
  refine (B1.out _).mono ?_
  rintro e w2 ⟨rfl, hb⟩
  have BS2 := Lib.hid (BS1.out.on hb)
  clear hb BS1 qa1 qb1 ql1
  have q := (BS2.out.get (.head _))
  have ql2 := q.2.1
  have qa2 : w2.cell? ⟨W.heap.size + 1 + 1, 0, none⟩ = some (.slice D2 n2 c2) := q.2.2.cell 0
  have qb2 : w2.cell? ⟨W.heap.size + 1 + 1, 1, none⟩ = some (.slice E2 m2 d2) := q.2.2.cell 1
  clear q
  go_wp2_with fail
  refine (B2.out _).mono ?_
  rintro e w3 ⟨rfl, hb⟩
  have BS3 := Lib.hid (BS2.out.on hb)
  clear hb BS2 qa2 qb2 ql2
  have q := (BS3.out.get (.tail _ (.tail _ (.head _))))
  have ql0 := q.2.1
  have qa0 : w3.cell? ⟨W.heap.size, 0, none⟩ = some (.slice D0 n0 c0) := q.2.2.cell 0
  have qb0 : w3.cell? ⟨W.heap.size, 1, none⟩ = some (.slice E0 m0 d0) := q.2.2.cell 1
  clear q
  go_wp2_with fail
  refine (V0.out _ BS3.out.below).mono ?_
  rintro e w4 ⟨rfl, hb⟩
  have BS4 := Lib.hid (BS3.out.on hb)
  clear hb BS3 qa0 qb0 ql0
  have q := (BS4.out.get (.tail _ (.head _)))
  have ql1 := q.2.1
  have qa1 : w4.cell? ⟨W.heap.size + 1, 0, none⟩ = some (.slice D1 n1 c1) := q.2.2.cell 0
  have qb1 : w4.cell? ⟨W.heap.size + 1, 1, none⟩ = some (.slice E1 m1 d1) := q.2.2.cell 1
  clear q
  go_wp2_with fail
  refine (V1.out _ BS4.out.below).mono ?_
  rintro e w5 ⟨rfl, hb⟩
  have BS5 := Lib.hid (BS4.out.on hb)
  clear hb BS4 qa1 qb1 ql1
  have q := (BS5.out.get (.head _))
  have ql2 := q.2.1
  have qa2 : w5.cell? ⟨W.heap.size + 1 + 1, 0, none⟩ = some (.slice D2 n2 c2) := q.2.2.cell 0
  have qb2 : w5.cell? ⟨W.heap.size + 1 + 1, 1, none⟩ = some (.slice E2 m2 d2) := q.2.2.cell 1
  clear q
  go_wp2_with fail
  refine (V2.out _ BS5.out.below).mono ?_
  rintro e w6 ⟨rfl, hb⟩
  have BS6 := Lib.hid (BS5.out.on hb)
  clear hb BS5 qa2 qb2 ql2
  have q := (BS6.out.get (.tail _ (.tail _ (.head _))))
  have ql0 := q.2.1
  have qa0 : w6.cell? ⟨W.heap.size, 0, none⟩ = some (.slice D0 n0 c0) := q.2.2.cell 0
  have qb0 : w6.cell? ⟨W.heap.size, 1, none⟩ = some (.slice E0 m0 d0) := q.2.2.cell 1
  clear q
  have q := (BS6.out.get (.tail _ (.head _)))
  have ql1 := q.2.1
  have qa1 : w6.cell? ⟨W.heap.size + 1, 0, none⟩ = some (.slice D1 n1 c1) := q.2.2.cell 0
  have qb1 : w6.cell? ⟨W.heap.size + 1, 1, none⟩ = some (.slice E1 m1 d1) := q.2.2.cell 1
  clear q
  go_wp2_with fail
  refine (cmp_num (HA0.out.below BS6.out.below) (HA1.out.below BS6.out.below) HCV.out).mono ?_
  rintro e w7 ⟨rfl, hb⟩
  have BS7 := Lib.hid (BS6.out.on hb)
  clear hb BS6 qa0 qb0 ql0 qa1 qb1 ql1
  have q := (BS7.out.get (.tail _ (.tail _ (.head _))))
  have ql0 := q.2.1
  have qa0 : w7.cell? ⟨W.heap.size, 0, none⟩ = some (.slice D0 n0 c0) := q.2.2.cell 0
  have qb0 : w7.cell? ⟨W.heap.size, 1, none⟩ = some (.slice E0 m0 d0) := q.2.2.cell 1
  clear q
  have q := (BS7.out.get (.head _))
  have ql2 := q.2.1
  have qa2 : w7.cell? ⟨W.heap.size + 1 + 1, 0, none⟩ = some (.slice D2 n2 c2) := q.2.2.cell 0
  have qb2 : w7.cell? ⟨W.heap.size + 1 + 1, 1, none⟩ = some (.slice E2 m2 d2) := q.2.2.cell 1
  clear q
  go_wp2_with fail
  refine (add8 (HA0.out.below BS7.out.below) (HA2.out.below BS7.out.below) h0 k0 h2 k2).mono ?_
  rintro e w8 ⟨⟨Dx, lx, cx, Ex, mx, cx', rfl, hX⟩, hb⟩
  have BS8 := Lib.hid ((BS7.out.on hb).alloc TF #[.slice Dx lx cx, .slice Ex mx cx'])
  have HX := Lib.hid (hX.below ((Below.refl _ _).alloc (Nat.le_refl _) (.cells #[.slice Dx lx cx, .slice Ex mx cx'] TF)))
  have BQ := Lib.hid (BS7.out.on hb)
  clear hb BS7 hX qa0 qb0 ql0 qa2 qb2 ql2
  unfold fv
  have q := (BQ.out.get (.tail _ (.head _)))
  have ql1 := q.2.1
  have qa1 : w8.cell? ⟨W.heap.size + 1, 0, none⟩ = some (.slice D1 n1 c1) := q.2.2.cell 0
  have qb1 : w8.cell? ⟨W.heap.size + 1, 1, none⟩ = some (.slice E1 m1 d1) := q.2.2.cell 1
  clear q
  have q := (BQ.out.get (.head _))
  have ql2 := q.2.1
  have qa2 : w8.cell? ⟨W.heap.size + 1 + 1, 0, none⟩ = some (.slice D2 n2 c2) := q.2.2.cell 0
  have qb2 : w8.cell? ⟨W.heap.size + 1 + 1, 1, none⟩ = some (.slice E2 m2 d2) := q.2.2.cell 1
  clear q
  go_wp2_with fail
  refine (add8 (HA1.out.below BS8.out.below) (HA2.out.below BS8.out.below) h1 k1 h2 k2).mono ?_
  rintro e w9 ⟨⟨Dy, ly, cy, Ey, my, cy', rfl, hY⟩, hb⟩
  have BS9 := Lib.hid ((BS8.out.on hb).alloc TF #[.slice Dy ly cy, .slice Ey my cy'])
  have HY := Lib.hid (hY.below ((Below.refl _ _).alloc (Nat.le_refl _) (.cells #[.slice Dy ly cy, .slice Ey my cy'] TF)))
  replace HX := Lib.hid ((HX.out.below hb).below ((Below.refl _ _).alloc (Nat.le_refl _) (.cells #[.slice Dy ly cy, .slice Ey my cy'] TF)))
  clear BQ qa1 qb1 ql1 qa2 qb2 ql2
  have BQ := Lib.hid (BS8.out.on hb)
  clear hb BS8 hY
  unfold fv
  have q := (BQ.out.get (.tail _ (.tail _ (.tail _ (.head _)))))
  have ql0 := q.2.1
  have qa0 : w9.cell? ⟨W.heap.size, 0, none⟩ = some (.slice D0 n0 c0) := q.2.2.cell 0
  have qb0 : w9.cell? ⟨W.heap.size, 1, none⟩ = some (.slice E0 m0 d0) := q.2.2.cell 1
  clear q
  have q := (BQ.out.get (.tail _ (.tail _ (.head _))))
  have ql1 := q.2.1
  have qa1 : w9.cell? ⟨W.heap.size + 1, 0, none⟩ = some (.slice D1 n1 c1) := q.2.2.cell 0
  have qb1 : w9.cell? ⟨W.heap.size + 1, 1, none⟩ = some (.slice E1 m1 d1) := q.2.2.cell 1
  clear q
  go_wp2_with fail
  refine (cmp_num (HA1.out.below BS9.out.below) (HA0.out.below BS9.out.below) HCG.out).mono ?_
  rintro e w10 ⟨rfl, hb⟩
  have BS10 := Lib.hid (BS9.out.on hb)
  replace HX := Lib.hid (HX.out.below hb)
  replace HY := Lib.hid (HY.out.below hb)
  clear hb BS9 BQ qa0 qb0 ql0 qa1 qb1 ql1
  have q := (BS10.out.get (.tail _ (.tail _ (.tail _ (.tail _ (.head _))))))
  have ql0 := q.2.1
  have qa0 : w10.cell? ⟨W.heap.size, 0, none⟩ = some (.slice D0 n0 c0) := q.2.2.cell 0
  have qb0 : w10.cell? ⟨W.heap.size, 1, none⟩ = some (.slice E0 m0 d0) := q.2.2.cell 1
  clear q
  have q := (BS10.out.get (.tail _ (.tail _ (.tail _ (.head _)))))
  have ql1 := q.2.1
  have qa1 : w10.cell? ⟨W.heap.size + 1, 0, none⟩ = some (.slice D1 n1 c1) := q.2.2.cell 0
  have qb1 : w10.cell? ⟨W.heap.size + 1, 1, none⟩ = some (.slice E1 m1 d1) := q.2.2.cell 1
  clear q
  go_wp2_with fail
  refine (same_num (HA0.out.below BS10.out.below) (HA1.out.below BS10.out.below) HSM.out).mono ?_
  rintro e w11 ⟨rfl, hb⟩
  have BS11 := Lib.hid (BS10.out.on hb)
  replace HX := Lib.hid (HX.out.below hb)
  replace HY := Lib.hid (HY.out.below hb)
  clear hb BS10 qa0 qb0 ql0 qa1 qb1 ql1
  have q := BS11.out.get (.tail _ (.head _))
  have ql3 := q.2.1
  have qa3 : w11.cell? ⟨w8.heap.size, 0, none⟩ = some (.slice Dx lx cx) := q.2.2.cell 0
  have qb3 : w11.cell? ⟨w8.heap.size, 1, none⟩ = some (.slice Ex mx cx') := q.2.2.cell 1
  clear q
  have q := BS11.out.get (.head _)
  have ql4 := q.2.1
  have qa4 : w11.cell? ⟨w9.heap.size, 0, none⟩ = some (.slice Dy ly cy) := q.2.2.cell 0
  have qb4 : w11.cell? ⟨w9.heap.size, 1, none⟩ = some (.slice Ey my cy') := q.2.2.cell 1
  clear q
  go_wp2_with fail
  refine (cmp_num HX.out HY.out HXY.out).mono ?_
  rintro e w12 ⟨rfl, hb⟩
  have BS12 := Lib.hid (BS11.out.on hb)
  clear hb BS11 HX HY qa3 qb3 ql3 qa4 qb4 ql4
  have q := (BS12.out.get (.tail _ (.tail _ (.tail _ (.tail _ (.head _))))))
  have ql0 := q.2.1
  have qa0 : w12.cell? ⟨W.heap.size, 0, none⟩ = some (.slice D0 n0 c0) := q.2.2.cell 0
  have qb0 : w12.cell? ⟨W.heap.size, 1, none⟩ = some (.slice E0 m0 d0) := q.2.2.cell 1
  clear q
  go_wp2_with fail
  refine (cmp_num (v := 0) (HA0.out.below BS12.out.below) (HA0.out.below BS12.out.below) (cmpI_self _)).mono ?_
  rintro e w13 ⟨rfl, hb⟩
  have BS13 := Lib.hid (BS12.out.on hb)
  clear hb BS12 qa0 qb0 ql0
  go_wp2_with fail
  refine (awake_any _).mono ?_
  rintro e w14 ⟨rfl, hb⟩
  have HB := Lib.hid (BS13.out.on hb).below
  clear hb
  go_wp2
  go_ret
  exact ⟨rfl, HB.out⟩
end Fr
theorem fracOrders_walk (W : World) {D0 E0 D1 E1 D2 E2 : Option Addr} {n0 m0 n1 m1 n2 m2 c0 d0 c1 d1 c2 d2 : Nat} {f0 g0 f1 g1 f2 g2 : Nat → Nat} (a0 : FrArg W D0 n0 c0 f0 E0 m0 d0 g0) (a1 : FrArg W D1 n1 c1 f1 E1 m1 d1 g1) (a2 : FrArg W D2 n2 c2 f2 E2 m2 d2 g2) :
    Calls Try.prog 10 #[Fr.fv D0 n0 c0 E0 m0 d0, Fr.fv D1 n1 c1 E1 m1 d1, Fr.fv D2 n2 c2 E2 m2 d2] W fun e w' => e = .returned (.bool true) ∧ Below W.heap.size W w' := by
  cases h : ((decide (n0 ≤ 8) && decide (m0 ≤ 8)) && (decide (n1 ≤ 8) && decide (m1 ≤ 8)) && (decide (n2 ≤ 8) && decide (m2 ≤ 8)) && Fr.fvd n0 f0 m0 g0 && Fr.fvd n1 f1 m1 g1 && Fr.fvd n2 f2 m2 g2) with
  | false => exact Fr.gate_FracOrders a0 a1 a2 rfl rfl rfl rfl rfl rfl h
  | true =>
    simp only [Bool.and_eq_true, decide_eq_true_eq] at h
    obtain ⟨⟨⟨⟨⟨⟨q0, q1⟩, q2, q3⟩, q4, q5⟩, v0⟩, v1⟩, v2⟩ := h
    exact Fr.orders_in (Fr.FrArg.num a0 v0) (Fr.FrArg.num a1 v1) (Fr.FrArg.num a2 v2) q0 q1 q2 q3 q4 q5
end Go.Proofs.Yteclghokkdkolaa
