/- Fractions by value with a bound of their limbs (as in the laws of 04), for the chapter of fairness. -/
import Derived.Test.YtiflmnmkmpjecaaFrOf
import Derived.Test.YtiflmnmkmpjecaaFrSame
set_option linter.unusedVariables false
namespace Go.Proofs.Ytiflmnmkmpjecaa
open Go.RowKit
namespace Fr
theorem fok_low {n d : Nat} (hd : 0 < d) : fok (n / Nat.gcd n d) (d / Nat.gcd n d) = true := by
  have hg := Nat.gcd_pos_of_pos_right n hd
  unfold fok
  rw [Nat.gcd_div (Nat.gcd_dvd_left n d) (Nat.gcd_dvd_right n d), Nat.div_self hg]
  have : 0 < d / Nat.gcd n d := Nat.div_pos (Nat.le_of_dvd hd (Nat.gcd_dvd_right n d)) hg
  simp [this]
/-- A valid fraction that came in, by its numbers. -/
structure FrNum (W : World) (D : Option Addr) (n : Nat) (E : Option Addr) (m : Nat) (x y : Nat) : Prop where
  n64 : n ≤ 64
  m64 : m ≤ 64
  nx : n = L32 x
  my : m = L32 y
  cx : Cells W D n (Lm (d32 x))
  cy : Cells W E m (Lm (d32 y))
  ok : fok x y = true
theorem FrNum.below {W w : World} {D E : Option Addr} {n m x y : Nat} (a : FrNum W D n E m x y) (h : Below W.heap.size W w) : FrNum w D n E m x y := ⟨a.n64, a.m64, a.nx, a.my, a.cx.below h, a.cy.below h, a.ok⟩
theorem fit_add {x y n : Nat} (hx : Fit32 x n) (hy : Fit32 y n) : Fit32 (x + y) (n + 1) := by
  unfold Fit32 at *
  rw [Nat.pow_succ]
  omega
theorem fok_cop {x y : Nat} (h : fok x y = true) : 0 < y ∧ Nat.gcd x y = 1 := by
  unfold fok at h
  simp only [Bool.and_eq_true, decide_eq_true_eq, beq_iff_eq] at h
  exact h
theorem cross_eq {a b c d : Nat} (h : fok a b = true) (k : fok c d = true) (e : a * d = c * b) : a = c ∧ b = d := by
  obtain ⟨hb, h1⟩ := fok_cop h
  obtain ⟨hd, k1⟩ := fok_cop k
  have e1 : b ∣ d := by
    have : b ∣ a * d := ⟨c, by rw [e, Nat.mul_comm]⟩
    exact Nat.Coprime.dvd_of_dvd_mul_left (show Nat.Coprime b a from by rw [Nat.Coprime, Nat.gcd_comm]; exact h1) this
  have e2 : d ∣ b := by
    have : d ∣ c * b := ⟨a, by rw [← e, Nat.mul_comm]⟩
    exact Nat.Coprime.dvd_of_dvd_mul_left (show Nat.Coprime d c from by rw [Nat.Coprime, Nat.gcd_comm]; exact k1) this
  have hbd : b = d := Nat.dvd_antisymm e1 e2
  subst hbd
  exact ⟨Nat.eq_of_mul_eq_mul_right hb e, rfl⟩
theorem same_num {xn xd yn yd : Nat} {w : World} {D0 D1 D2 D3 : Option Addr} {n0 n1 n2 n3 c0 c1 c2 c3 : Nat} (a : FrNum w D0 n0 D1 n1 xn xd) (b : FrNum w D2 n2 D3 n3 yn yd) {v : Bool} (hv : (decide (xn = yn) && decide (xd = yd)) = v) :
    Calls Try.prog 17 #[fv D0 n0 c0 D1 n1 c1, fv D2 n2 c2 D3 n3 c3] w fun e w' => e = .returned (.bool v) ∧ Below w.heap.size w w' := by
  subst hv
  have := a.n64
  have := a.m64
  have := b.n64
  have := b.m64
  exact same_any (by omega) (by omega) (by omega) (by omega) a.nx a.my b.nx b.my a.cx a.cy b.cx b.cy
/-- x / y is the number N / D. -/
structure Rep (x y N D : Nat) : Prop where
  eq : x * D = N * y
  y0 : 0 < y
  d0 : 0 < D
theorem Rep.self {x y : Nat} (h : 0 < y) : Rep x y x y := ⟨rfl, h, h⟩
theorem Rep.red {x y : Nat} (hy : 0 < y) : Rep (x / Nat.gcd x y) (y / Nat.gcd x y) x y := by
  have hg := Nat.gcd_pos_of_pos_right x hy
  refine ⟨?_, Nat.div_pos (Nat.le_of_dvd hy (Nat.gcd_dvd_right x y)) hg, hy⟩
  obtain ⟨a, ha⟩ := Nat.gcd_dvd_left x y
  obtain ⟨b, hb⟩ := Nat.gcd_dvd_right x y
  generalize Nat.gcd x y = g at ha hb hg ⊢
  subst ha
  rw [hb, Nat.mul_div_cancel_left _ hg, Nat.mul_div_cancel_left _ hg]
  grind
theorem Rep.add {x y N D x' y' N' D' r s : Nat} (a : Rep x y N D) (b : Rep x' y' N' D') (c : Rep r s (x * y' + x' * y) (y * y')) : Rep r s (N * D' + N' * D) (D * D') := by
  refine ⟨?_, c.y0, Nat.mul_pos a.d0 b.d0⟩
  refine Nat.eq_of_mul_eq_mul_right (Nat.mul_pos a.y0 b.y0) ?_
  have h1 := a.eq
  have h2 := b.eq
  have h3 := c.eq
  grind
theorem Rep.sub {x y N D x' y' r s : Nat} (a : Rep x y (N + x' * D) (D * y')) (hle : x' * y ≤ x * y') (hy' : 0 < y') (hD : 0 < D) (c : Rep r s (x * y' - x' * y) (y * y')) : Rep r s N (D * y') := by
  refine ⟨?_, c.y0, Nat.mul_pos hD hy'⟩
  refine Nat.eq_of_mul_eq_mul_right (Nat.mul_pos a.y0 hy') ?_
  have h1 := a.eq
  have h3 := c.eq
  obtain ⟨k, hk⟩ : ∃ k, x * y' = x' * y + k := ⟨x * y' - x' * y, by omega⟩
  rw [hk, Nat.add_sub_cancel_left] at h3
  have h4 : k * D = N * y := by grind
  grind
theorem Rep.mul {x y N D x' y' N' D' r s : Nat} (a : Rep x y N D) (b : Rep x' y' N' D') (c : Rep r s (x * x') (y * y')) : Rep r s (N * N') (D * D') := by
  refine ⟨?_, c.y0, Nat.mul_pos a.d0 b.d0⟩
  refine Nat.eq_of_mul_eq_mul_right (Nat.mul_pos a.y0 b.y0) ?_
  have h1 := a.eq
  have h2 := b.eq
  have h3 := c.eq
  grind
theorem Rep.same {x y N D x' y' N' D' : Nat} (a : Rep x y N D) (b : Rep x' y' N' D') (h : fok x y = true) (k : fok x' y' = true) (e : N * D' = N' * D) : x = x' ∧ y = y' := by
  refine cross_eq h k ?_
  refine Nat.eq_of_mul_eq_mul_right (Nat.mul_pos a.d0 b.d0) ?_
  have h1 := a.eq
  have h2 := b.eq
  grind
/-- A valid fraction in memory whose parts have at most K limbs. -/
structure FrS (w : World) (D : Option Addr) (n : Nat) (E : Option Addr) (m : Nat) (x y K : Nat) : Prop where
  num : FrNum w D n E m x y
  kx : Fit32 x K
  ky : Fit32 y K
theorem FrS.below {W w : World} {D E : Option Addr} {n m x y K : Nat} (a : FrS W D n E m x y K) (h : Below W.heap.size W w) : FrS w D n E m x y K := ⟨a.num.below h, a.kx, a.ky⟩
theorem FrNum.s8 {w : World} {D E : Option Addr} {n m x y : Nat} (a : FrNum w D n E m x y) (h : n ≤ 8) (k : m ≤ 8) : FrS w D n E m x y 8 :=
  ⟨a, fit32_mono (fit32_len x) (by rw [← a.nx]; exact h), fit32_mono (fit32_len y) (by rw [← a.my]; exact k)⟩
/-- What a call on fractions returns: a fraction of at most K limbs that is the number N / D. -/
def RS (B : Nat) (w' : World) (e : Ending) (K N M : Nat) : Prop :=
  ∃ (D : Option Addr) (l c : Nat) (E : Option Addr) (m c' r s : Nat), e = .returned (.tuple #[.agg #[.slice D l c, .slice E m c'], .int .i64 0]) ∧ FrS w' D l E m r s K ∧ Rep r s N M ∧ Fresh B D ∧ Fresh B E
theorem rs_of {B : Nat} {w' : World} {e : Ending} {a b K : Nat} (h : Res B w' e (a / Nat.gcd a b) (b / Nat.gcd a b)) (hb : 0 < b) (ka : Fit32 a K) (kb : Fit32 b K) (hK : K ≤ 64) : RS B w' e K a b := by
  obtain ⟨D, c, E, c', he, _, _, hc, hd, f1, f2⟩ := h
  have k1 : Fit32 (a / Nat.gcd a b) K := Nat.lt_of_le_of_lt (Nat.div_le_self _ _) ka
  have k2 : Fit32 (b / Nat.gcd a b) K := Nat.lt_of_le_of_lt (Nat.div_le_self _ _) kb
  exact ⟨D, _, c, E, _, c', _, _, he, ⟨⟨Nat.le_trans (fit32_le k1) hK, Nat.le_trans (fit32_le k2) hK, rfl, rfl, hc, hd, fok_low hb⟩, k1, k2⟩, Rep.red hb, f1, f2⟩
section
variable {xn xd yn yd K L : Nat} {w : World} {D0 D1 D2 D3 : Option Addr} {n0 n1 n2 n3 c0 c1 c2 c3 : Nat}
theorem add_s (a : FrS w D0 n0 D1 n1 xn xd K) (b : FrS w D2 n2 D3 n3 yn yd L) (hK : K + L + 1 ≤ 64) :
    Calls Try.prog 36 #[.agg #[.slice D0 n0 c0, .slice D1 n1 c1], .agg #[.slice D2 n2 c2, .slice D3 n3 c3]] w fun e w' => RS w.heap.size w' e (K + L + 1) (xn * yd + yn * xd) (xd * yd) ∧ Below w.heap.size w w' := by
  have f1 : Fit32 (xn * yd) (K + L) := fit32_mul a.kx b.ky
  have f2 : Fit32 (yn * xd) (K + L) := by rw [Nat.add_comm K L]; exact fit32_mul b.kx a.ky
  have f3 : Fit32 (xd * yd) (K + L) := fit32_mul a.ky b.ky
  have f4 := fit_add f1 f2
  refine (add_ok a.num.n64 a.num.m64 b.num.n64 b.num.m64 a.num.nx a.num.my b.num.nx b.num.my a.num.cx a.num.cy b.num.cx b.num.cy a.num.ok b.num.ok).mono ?_
  rintro e w' ⟨⟨_, h⟩ | ⟨h, _⟩, hb⟩
  · exact ⟨rs_of h (Nat.mul_pos (fok_pos a.num.ok) (fok_pos b.num.ok)) f4 (fit32_mono f3 (by omega)) hK, hb⟩
  · exact absurd ⟨Nat.le_trans (fit32_le f1) (by omega), Nat.le_trans (fit32_le f2) (by omega), Nat.le_trans (fit32_le f3) (by omega), Nat.le_trans (fit32_le f4) hK⟩ h
theorem sub_s (a : FrS w D0 n0 D1 n1 xn xd K) (b : FrS w D2 n2 D3 n3 yn yd L) (hK : K + L ≤ 64) (hle : yn * xd ≤ xn * yd) :
    Calls Try.prog 38 #[.agg #[.slice D0 n0 c0, .slice D1 n1 c1], .agg #[.slice D2 n2 c2, .slice D3 n3 c3]] w fun e w' => RS w.heap.size w' e (K + L) (xn * yd - yn * xd) (xd * yd) ∧ Below w.heap.size w w' := by
  have f1 : Fit32 (xn * yd) (K + L) := fit32_mul a.kx b.ky
  have f2 : Fit32 (yn * xd) (K + L) := by rw [Nat.add_comm K L]; exact fit32_mul b.kx a.ky
  have f3 : Fit32 (xd * yd) (K + L) := fit32_mul a.ky b.ky
  refine (sub_ok a.num.n64 a.num.m64 b.num.n64 b.num.m64 a.num.nx a.num.my b.num.nx b.num.my a.num.cx a.num.cy b.num.cx b.num.cy a.num.ok b.num.ok hle).mono ?_
  rintro e w' ⟨⟨_, h⟩ | ⟨h, _⟩, hb⟩
  · exact ⟨rs_of h (Nat.mul_pos (fok_pos a.num.ok) (fok_pos b.num.ok)) (Nat.lt_of_le_of_lt (Nat.sub_le _ _) f1) f3 hK, hb⟩
  · exact absurd ⟨Nat.le_trans (fit32_le f1) (by omega), Nat.le_trans (fit32_le f2) (by omega), Nat.le_trans (fit32_le f3) (by omega)⟩ h
theorem mul_s (a : FrS w D0 n0 D1 n1 xn xd K) (b : FrS w D2 n2 D3 n3 yn yd L) (hK : K + L ≤ 64) :
    Calls Try.prog 37 #[.agg #[.slice D0 n0 c0, .slice D1 n1 c1], .agg #[.slice D2 n2 c2, .slice D3 n3 c3]] w fun e w' => RS w.heap.size w' e (K + L) (xn * yn) (xd * yd) ∧ Below w.heap.size w w' := by
  have f1 : Fit32 (xn * yn) (K + L) := fit32_mul a.kx b.kx
  have f3 : Fit32 (xd * yd) (K + L) := fit32_mul a.ky b.ky
  refine (mul_ok a.num.n64 a.num.m64 b.num.n64 b.num.m64 a.num.nx a.num.my b.num.nx b.num.my a.num.cx a.num.cy b.num.cx b.num.cy a.num.ok b.num.ok).mono ?_
  rintro e w' ⟨⟨_, h⟩ | ⟨h, _⟩, hb⟩
  · exact ⟨rs_of h (Nat.mul_pos (fok_pos a.num.ok) (fok_pos b.num.ok)) f1 f3 hK, hb⟩
  · exact absurd ⟨Nat.le_trans (fit32_le f1) (by omega), Nat.le_trans (fit32_le f3) (by omega)⟩ h
theorem same_s (a : FrS w D0 n0 D1 n1 xn xd K) (b : FrS w D2 n2 D3 n3 yn yd L) (h : xn = yn ∧ xd = yd) :
    Calls Try.prog 17 #[.agg #[.slice D0 n0 c0, .slice D1 n1 c1], .agg #[.slice D2 n2 c2, .slice D3 n3 c3]] w fun e w' => e = .returned (.bool true) ∧ Below w.heap.size w w' :=
  same_num a.num b.num (by rw [decide_eq_true h.1, decide_eq_true h.2]; rfl)
end
end Fr
end Go.Proofs.Ytiflmnmkmpjecaa
