/- Several texts in one. -/
import Derived.Test.YtiflmnmkmpjecaaG8
import Derived.Test.YtiflmnmkmpjecaaG13
import Derived.Deep.RegionHeld3
/- Fractions by value with a bound of their limbs (as in the laws of 04), for the chapter of fairness. -/
set_option linter.unusedVariables false
namespace Go.Proofs.Ytiflmnmkmpjecaa
open Go.RowKit
namespace Fr
theorem fok_low {n d : Nat} (hd : 0 < d) : fok (n / Nat.gcd n d) (d / Nat.gcd n d) = true := by
  have hg := Nat.gcd_pos_of_pos_right n hd
  unfold fok
  rw [Nat.gcd_div (Nat.gcd_dvd_left n d) (Nat.gcd_dvd_right n d), Nat.div_self hg]
  have : 0 < d / Nat.gcd n d := Nat.div_pos (Nat.le_of_dvd hd (Nat.gcd_dvd_right n d)) hg
  simp [this]
/-- A valid fraction that came in, by its numbers. -/
structure FrNum (W : World) (D : Option Addr) (n : Nat) (E : Option Addr) (m : Nat) (x y : Nat) : Prop where
  n64 : n ≤ 64
  m64 : m ≤ 64
  nx : n = L32 x
  my : m = L32 y
  cx : Cells W D n (Lm (d32 x))
  cy : Cells W E m (Lm (d32 y))
  ok : fok x y = true
theorem FrNum.below {W w : World} {D E : Option Addr} {n m x y : Nat} (a : FrNum W D n E m x y) (h : Below W.heap.size W w) : FrNum w D n E m x y := ⟨a.n64, a.m64, a.nx, a.my, a.cx.below h, a.cy.below h, a.ok⟩
theorem fit_add {x y n : Nat} (hx : Fit32 x n) (hy : Fit32 y n) : Fit32 (x + y) (n + 1) := by
  unfold Fit32 at *
  rw [Nat.pow_succ]
  omega
theorem fok_cop {x y : Nat} (h : fok x y = true) : 0 < y ∧ Nat.gcd x y = 1 := by
  unfold fok at h
  simp only [Bool.and_eq_true, decide_eq_true_eq, beq_iff_eq] at h
  exact h
theorem cross_eq {a b c d : Nat} (h : fok a b = true) (k : fok c d = true) (e : a * d = c * b) : a = c ∧ b = d := by
  obtain ⟨hb, h1⟩ := fok_cop h
  obtain ⟨hd, k1⟩ := fok_cop k
  have e1 : b ∣ d := by
    have : b ∣ a * d := ⟨c, by rw [e, Nat.mul_comm]⟩
    exact Nat.Coprime.dvd_of_dvd_mul_left (show Nat.Coprime b a from by rw [Nat.Coprime, Nat.gcd_comm]; exact h1) this
  have e2 : d ∣ b := by
    have : d ∣ c * b := ⟨a, by rw [← e, Nat.mul_comm]⟩
    exact Nat.Coprime.dvd_of_dvd_mul_left (show Nat.Coprime d c from by rw [Nat.Coprime, Nat.gcd_comm]; exact k1) this
  have hbd : b = d := Nat.dvd_antisymm e1 e2
  subst hbd
  exact ⟨Nat.eq_of_mul_eq_mul_right hb e, rfl⟩
theorem same_num {xn xd yn yd : Nat} {w : World} {D0 D1 D2 D3 : Option Addr} {n0 n1 n2 n3 c0 c1 c2 c3 : Nat} (a : FrNum w D0 n0 D1 n1 xn xd) (b : FrNum w D2 n2 D3 n3 yn yd) {v : Bool} (hv : (decide (xn = yn) && decide (xd = yd)) = v) :
    Calls Try.prog 17 #[fv D0 n0 c0 D1 n1 c1, fv D2 n2 c2 D3 n3 c3] w fun e w' => e = .returned (.bool v) ∧ Below w.heap.size w w' := by
  subst hv
  have := a.n64
  have := a.m64
  have := b.n64
  have := b.m64
  exact same_any (by omega) (by omega) (by omega) (by omega) a.nx a.my b.nx b.my a.cx a.cy b.cx b.cy
/-- x / y is the number N / D. -/
structure Rep (x y N D : Nat) : Prop where
  eq : x * D = N * y
  y0 : 0 < y
  d0 : 0 < D
theorem Rep.self {x y : Nat} (h : 0 < y) : Rep x y x y := ⟨rfl, h, h⟩
theorem Rep.red {x y : Nat} (hy : 0 < y) : Rep (x / Nat.gcd x y) (y / Nat.gcd x y) x y := by
  have hg := Nat.gcd_pos_of_pos_right x hy
  refine ⟨?_, Nat.div_pos (Nat.le_of_dvd hy (Nat.gcd_dvd_right x y)) hg, hy⟩
  obtain ⟨a, ha⟩ := Nat.gcd_dvd_left x y
  obtain ⟨b, hb⟩ := Nat.gcd_dvd_right x y
  generalize Nat.gcd x y = g at ha hb hg ⊢
  subst ha
  rw [hb, Nat.mul_div_cancel_left _ hg, Nat.mul_div_cancel_left _ hg]
  grind
theorem Rep.add {x y N D x' y' N' D' r s : Nat} (a : Rep x y N D) (b : Rep x' y' N' D') (c : Rep r s (x * y' + x' * y) (y * y')) : Rep r s (N * D' + N' * D) (D * D') := by
  refine ⟨?_, c.y0, Nat.mul_pos a.d0 b.d0⟩
  refine Nat.eq_of_mul_eq_mul_right (Nat.mul_pos a.y0 b.y0) ?_
  have h1 := a.eq
  have h2 := b.eq
  have h3 := c.eq
  grind
theorem Rep.sub {x y N D x' y' r s : Nat} (a : Rep x y (N + x' * D) (D * y')) (hle : x' * y ≤ x * y') (hy' : 0 < y') (hD : 0 < D) (c : Rep r s (x * y' - x' * y) (y * y')) : Rep r s N (D * y') := by
  refine ⟨?_, c.y0, Nat.mul_pos hD hy'⟩
  refine Nat.eq_of_mul_eq_mul_right (Nat.mul_pos a.y0 hy') ?_
  have h1 := a.eq
  have h3 := c.eq
  obtain ⟨k, hk⟩ : ∃ k, x * y' = x' * y + k := ⟨x * y' - x' * y, by omega⟩
  rw [hk, Nat.add_sub_cancel_left] at h3
  have h4 : k * D = N * y := by grind
  grind
theorem Rep.mul {x y N D x' y' N' D' r s : Nat} (a : Rep x y N D) (b : Rep x' y' N' D') (c : Rep r s (x * x') (y * y')) : Rep r s (N * N') (D * D') := by
  refine ⟨?_, c.y0, Nat.mul_pos a.d0 b.d0⟩
  refine Nat.eq_of_mul_eq_mul_right (Nat.mul_pos a.y0 b.y0) ?_
  have h1 := a.eq
  have h2 := b.eq
  have h3 := c.eq
  grind
theorem Rep.same {x y N D x' y' N' D' : Nat} (a : Rep x y N D) (b : Rep x' y' N' D') (h : fok x y = true) (k : fok x' y' = true) (e : N * D' = N' * D) : x = x' ∧ y = y' := by
  refine cross_eq h k ?_
  refine Nat.eq_of_mul_eq_mul_right (Nat.mul_pos a.d0 b.d0) ?_
  have h1 := a.eq
  have h2 := b.eq
  grind
/-- A valid fraction in memory whose parts have at most K limbs. -/
structure FrS (w : World) (D : Option Addr) (n : Nat) (E : Option Addr) (m : Nat) (x y K : Nat) : Prop where
  num : FrNum w D n E m x y
  kx : Fit32 x K
  ky : Fit32 y K
theorem FrS.below {W w : World} {D E : Option Addr} {n m x y K : Nat} (a : FrS W D n E m x y K) (h : Below W.heap.size W w) : FrS w D n E m x y K := ⟨a.num.below h, a.kx, a.ky⟩
theorem FrNum.s8 {w : World} {D E : Option Addr} {n m x y : Nat} (a : FrNum w D n E m x y) (h : n ≤ 8) (k : m ≤ 8) : FrS w D n E m x y 8 :=
  ⟨a, fit32_mono (fit32_len x) (by rw [← a.nx]; exact h), fit32_mono (fit32_len y) (by rw [← a.my]; exact k)⟩
/-- What a call on fractions returns: a fraction of at most K limbs that is the number N / D. -/
def RS (B : Nat) (w' : World) (e : Ending) (K N M : Nat) : Prop :=
  ∃ (D : Option Addr) (l c : Nat) (E : Option Addr) (m c' r s : Nat), e = .returned (.tuple #[.agg #[.slice D l c, .slice E m c'], .int .i64 0]) ∧ FrS w' D l E m r s K ∧ Rep r s N M ∧ Fresh B D ∧ Fresh B E
theorem rs_of {B : Nat} {w' : World} {e : Ending} {a b K : Nat} (h : Res B w' e (a / Nat.gcd a b) (b / Nat.gcd a b)) (hb : 0 < b) (ka : Fit32 a K) (kb : Fit32 b K) (hK : K ≤ 64) : RS B w' e K a b := by
  obtain ⟨D, c, E, c', he, _, _, hc, hd, f1, f2⟩ := h
  have k1 : Fit32 (a / Nat.gcd a b) K := Nat.lt_of_le_of_lt (Nat.div_le_self _ _) ka
  have k2 : Fit32 (b / Nat.gcd a b) K := Nat.lt_of_le_of_lt (Nat.div_le_self _ _) kb
  exact ⟨D, _, c, E, _, c', _, _, he, ⟨⟨Nat.le_trans (fit32_le k1) hK, Nat.le_trans (fit32_le k2) hK, rfl, rfl, hc, hd, fok_low hb⟩, k1, k2⟩, Rep.red hb, f1, f2⟩
section
variable {xn xd yn yd K L : Nat} {w : World} {D0 D1 D2 D3 : Option Addr} {n0 n1 n2 n3 c0 c1 c2 c3 : Nat}
theorem add_s (a : FrS w D0 n0 D1 n1 xn xd K) (b : FrS w D2 n2 D3 n3 yn yd L) (hK : K + L + 1 ≤ 64) :
    Calls Try.prog 36 #[.agg #[.slice D0 n0 c0, .slice D1 n1 c1], .agg #[.slice D2 n2 c2, .slice D3 n3 c3]] w fun e w' => RS w.heap.size w' e (K + L + 1) (xn * yd + yn * xd) (xd * yd) ∧ Below w.heap.size w w' := by
  have f1 : Fit32 (xn * yd) (K + L) := fit32_mul a.kx b.ky
  have f2 : Fit32 (yn * xd) (K + L) := by rw [Nat.add_comm K L]; exact fit32_mul b.kx a.ky
  have f3 : Fit32 (xd * yd) (K + L) := fit32_mul a.ky b.ky
  have f4 := fit_add f1 f2
  refine (add_ok a.num.n64 a.num.m64 b.num.n64 b.num.m64 a.num.nx a.num.my b.num.nx b.num.my a.num.cx a.num.cy b.num.cx b.num.cy a.num.ok b.num.ok).mono ?_
  rintro e w' ⟨⟨_, h⟩ | ⟨h, _⟩, hb⟩
  · exact ⟨rs_of h (Nat.mul_pos (fok_pos a.num.ok) (fok_pos b.num.ok)) f4 (fit32_mono f3 (by omega)) hK, hb⟩
  · exact absurd ⟨Nat.le_trans (fit32_le f1) (by omega), Nat.le_trans (fit32_le f2) (by omega), Nat.le_trans (fit32_le f3) (by omega), Nat.le_trans (fit32_le f4) hK⟩ h
theorem sub_s (a : FrS w D0 n0 D1 n1 xn xd K) (b : FrS w D2 n2 D3 n3 yn yd L) (hK : K + L ≤ 64) (hle : yn * xd ≤ xn * yd) :
    Calls Try.prog 38 #[.agg #[.slice D0 n0 c0, .slice D1 n1 c1], .agg #[.slice D2 n2 c2, .slice D3 n3 c3]] w fun e w' => RS w.heap.size w' e (K + L) (xn * yd - yn * xd) (xd * yd) ∧ Below w.heap.size w w' := by
  have f1 : Fit32 (xn * yd) (K + L) := fit32_mul a.kx b.ky
  have f2 : Fit32 (yn * xd) (K + L) := by rw [Nat.add_comm K L]; exact fit32_mul b.kx a.ky
  have f3 : Fit32 (xd * yd) (K + L) := fit32_mul a.ky b.ky
  refine (sub_ok a.num.n64 a.num.m64 b.num.n64 b.num.m64 a.num.nx a.num.my b.num.nx b.num.my a.num.cx a.num.cy b.num.cx b.num.cy a.num.ok b.num.ok hle).mono ?_
  rintro e w' ⟨⟨_, h⟩ | ⟨h, _⟩, hb⟩
  · exact ⟨rs_of h (Nat.mul_pos (fok_pos a.num.ok) (fok_pos b.num.ok)) (Nat.lt_of_le_of_lt (Nat.sub_le _ _) f1) f3 hK, hb⟩
  · exact absurd ⟨Nat.le_trans (fit32_le f1) (by omega), Nat.le_trans (fit32_le f2) (by omega), Nat.le_trans (fit32_le f3) (by omega)⟩ h
theorem mul_s (a : FrS w D0 n0 D1 n1 xn xd K) (b : FrS w D2 n2 D3 n3 yn yd L) (hK : K + L ≤ 64) :
    Calls Try.prog 37 #[.agg #[.slice D0 n0 c0, .slice D1 n1 c1], .agg #[.slice D2 n2 c2, .slice D3 n3 c3]] w fun e w' => RS w.heap.size w' e (K + L) (xn * yn) (xd * yd) ∧ Below w.heap.size w w' := by
  have f1 : Fit32 (xn * yn) (K + L) := fit32_mul a.kx b.kx
  have f3 : Fit32 (xd * yd) (K + L) := fit32_mul a.ky b.ky
  refine (mul_ok a.num.n64 a.num.m64 b.num.n64 b.num.m64 a.num.nx a.num.my b.num.nx b.num.my a.num.cx a.num.cy b.num.cx b.num.cy a.num.ok b.num.ok).mono ?_
  rintro e w' ⟨⟨_, h⟩ | ⟨h, _⟩, hb⟩
  · exact ⟨rs_of h (Nat.mul_pos (fok_pos a.num.ok) (fok_pos b.num.ok)) f1 f3 hK, hb⟩
  · exact absurd ⟨Nat.le_trans (fit32_le f1) (by omega), Nat.le_trans (fit32_le f3) (by omega)⟩ h
theorem same_s (a : FrS w D0 n0 D1 n1 xn xd K) (b : FrS w D2 n2 D3 n3 yn yd L) (h : xn = yn ∧ xd = yd) :
    Calls Try.prog 17 #[.agg #[.slice D0 n0 c0, .slice D1 n1 c1], .agg #[.slice D2 n2 c2, .slice D3 n3 c3]] w fun e w' => e = .returned (.bool true) ∧ Below w.heap.size w w' :=
  same_num a.num b.num (by rw [decide_eq_true h.1, decide_eq_true h.2]; rfl)
end
end Fr
end Go.Proofs.Ytiflmnmkmpjecaa

/- The walk of fairness.ChiSquare. -/
set_option linter.unusedVariables false
namespace Go.Proofs.Ytiflmnmkmpjecaa
open Go.RowKit
namespace Fr
theorem bl_box {w : World} {o : Obj} : Below w.heap.size w (w.alloc o) := (Below.refl _ _).alloc (Nat.le_refl _) _
theorem FrS.set_ {w : World} {D E : Option Addr} {n m x y K B g : Nat} (h : FrS w D n E m x y K) (f1 : Fresh B D) (f2 : Fresh B E) (hg : g < B) (i : Nat) (u : Value) : FrS (w.setCell ⟨g, i, none⟩ u) D n E m x y K :=
  ⟨{ h.num with cx := h.num.cx.set_ f1 hg i u, cy := h.num.cy.set_ f2 hg i u }, h.kx, h.ky⟩
end Fr
namespace Fa
open Fr
abbrev TS : TypeId := 24
/-- Sums of the squares over the weights, as numerator and denominator. -/
def SN (o p : Nat → Nat) : Nat → Nat × Nat
  | 0 => (0, 1)
  | i + 1 => ((SN o p i).1 * p i + (o i * o i) * (SN o p i).2, (SN o p i).2 * p i)
def nsum (f : Nat → Nat) : Nat → Nat
  | 0 => 0
  | i + 1 => nsum f i + f i
theorem SN_pos {o p : Nat → Nat} : ∀ {n}, (∀ i, i < n → 0 < p i) → 0 < (SN o p n).2
  | 0, _ => by simp [SN]
  | n + 1, h => by rw [SN]; exact Nat.mul_pos (SN_pos fun i hi => h i (by omega)) (h n (by omega))
theorem cauchy_step {S V N d o w : Nat} (ih : S * S * d ≤ V * N) (hw : 0 < w) (hV : V = 0 → S = 0) : (S + o) * (S + o) * (d * w) ≤ (V + w) * (N * w + o * o * d) := by
  rcases Nat.eq_zero_or_pos V with h | h
  · have hS := hV h
    subst h hS
    have : (0 + o) * (0 + o) * (d * w) = w * (o * o * d) := by grind
    rw [this, Nat.zero_add]
    exact Nat.mul_le_mul_left _ (Nat.le_add_left _ _)
  · refine Nat.le_of_mul_le_mul_left ?_ h
    have h1 : (0 : Int) ≤ ((V : Int) * o - w * S) * (V * o - w * S) := by
      rcases Int.le_total 0 ((V : Int) * o - w * S) with h2 | h2
      · exact Int.mul_nonneg h2 h2
      · have := Int.mul_nonneg (Int.neg_nonneg.2 h2) (Int.neg_nonneg.2 h2)
        rwa [Int.neg_mul_neg] at this
    have h2 : (0 : Int) ≤ (d : Int) * (((V : Int) * o - w * S) * (V * o - w * S)) := Int.mul_nonneg (by omega) h1
    have h3 : (0 : Int) ≤ ((V : Int) * N - S * S * d) := by
      have : (S : Int) * S * d ≤ V * N := by exact_mod_cast ih
      omega
    have h4 : (0 : Int) ≤ (w : Int) * ((V + w) * ((V : Int) * N - S * S * d)) := Int.mul_nonneg (by omega) (Int.mul_nonneg (by omega) h3)
    have key : (V : Int) * ((V + w) * (N * w + o * o * d)) - V * ((S + o) * (S + o) * (d * w)) = w * ((V + w) * ((V : Int) * N - S * S * d)) + d * (((V : Int) * o - w * S) * (V * o - w * S)) := by grind
    have h5 : (V : Int) * ((S + o) * (S + o) * (d * w)) ≤ V * ((V + w) * (N * w + o * o * d)) := by omega
    exact_mod_cast h5
theorem cauchy {o p : Nat → Nat} : ∀ {n}, (∀ i, i < n → 0 < p i) → nsum o n * nsum o n * (SN o p n).2 ≤ nsum p n * (SN o p n).1 ∧ (nsum p n = 0 → nsum o n = 0)
  | 0, _ => by simp [nsum, SN]
  | n + 1, h => by
    have ih := cauchy (o := o) (n := n) fun i hi => h i (by omega)
    have hn := h n (by omega)
    refine ⟨?_, fun e => ?_⟩
    · rw [nsum, nsum, SN]
      exact cauchy_step ih.1 hn ih.2
    · rw [nsum] at e
      omega
theorem fit_of {x : Nat} (h : x < 18446744073709551616) : Fit32 x 2 := by unfold Fit32; exact h
set_option maxHeartbeats 4000000 in
set_option maxRecDepth 100000 in
theorem term_any {w : World} {A B : Option Addr} {n c c' k b2 b3 : Nat} {o p : Nat → Nat} (hb2 : Blk w b2 TS #[.slice A n c]) (hb3 : Blk w b3 TS #[.slice B n c']) (hA : Cells w A n (Dg o)) (hB : Cells w B n (Dg p)) (hk : k < n) (hn : n ≤ 80) (ho : o k ≤ 1000000) (hp0 : 0 < p k) (hp : p k ≤ 1000000) :
    Calls Try.prog 34 #[.int .i64 (k : Int), .pointer (some ⟨b2, 0, none⟩), .pointer (some ⟨b3, 0, none⟩)] w fun e w' => RS w.heap.size w' e 2 (o k * o k) (p k) ∧ Below w.heap.size w w' := by
  have BS0 := Lib.hid (box0 w)
  obtain ⟨b1, o1, rfl, hlt1, hc1⟩ := hA.dg hk
  obtain ⟨b4, o4, rfl, hlt4, hc4⟩ := hB.dg hk
  obtain ⟨x, hx⟩ : ∃ x, x = o k := ⟨_, rfl⟩
  obtain ⟨y, hy⟩ : ∃ y, y = p k := ⟨_, rfl⟩
  rw [← hx] at hc1 ho ⊢
  rw [← hy] at hc4 hp0 hp ⊢
  obtain ⟨u, hu⟩ : ∃ u, u = x * x := ⟨_, rfl⟩
  have hu2 : u ≤ 1000000000000 := by rw [hu]; exact Nat.mul_le_mul ho ho
  have hw : IntKind.i64.wrap ((x : Int) * (x : Int)) = (u : Int) := by rw [show (x : Int) * (x : Int) = (u : Int) by rw [hu]; rfl]; exact IntWalk.i64_in _ (by omega)
  rw [← hu]
  have HOF : Hid (∀ w', Below w.heap.size w w' → Calls Try.prog 35 #[.int .i64 (u : Int), .int .i64 (y : Int)] w' fun e w'' => RS w'.heap.size w'' e 2 u y ∧ Below w'.heap.size w' w'' ∧ Below w.heap.size w w'') := Lib.hid fun w' hw' => by
    refine (of_ok w' (x := u) (y := y) (by omega) (by omega) hp0).mono ?_
    rintro e w'' ⟨h, hb⟩
    exact ⟨rs_of h hp0 (fit_of (by omega)) (fit_of (by omega)) (by omega), hb, Below.on hw' hb⟩
  have HALL : Hid (∀ w', Below w.heap.size w w' → w'.cell? ⟨b2, 0, none⟩ = some (.slice (some ⟨b1, o1, none⟩) n c) ∧ w'.cell? ⟨b3, 0, none⟩ = some (.slice (some ⟨b4, o4, none⟩) n c') ∧ w'.cell? ⟨b1, o1 + k, none⟩ = some (.int .i64 (x : Int)) ∧ w'.cell? ⟨b4, o4 + k, none⟩ = some (.int .i64 (y : Int)) ∧ Below w.heap.size w w') := Lib.hid fun w' hw' =>
    ⟨(hb2.keep hw').cell 0, (hb3.keep hw').cell 0, ((bcell hw').1 _ _ hlt1).trans hc1, ((bcell hw').1 _ _ hlt4).trans hc4, hw'⟩
  have i1 : (0 : Int) ≤ (k : Int) := by omega
  have i2 : (k : Int) < (n : Int) := by omega
  have HU2 := Lib.hid hu2
  have L2 := hb2.lt
  have L3 := hb3.lt
  clear hu hx hy hu2 hb2 hb3 hA hB hc1 hc4 hp hp0 ho
  go_enter Try.func34, Try.ntmps34
  have A0 : Below w.heap.size w (w.alloc (.cells #[.slice none 0 0, .slice none 0 0] TF)).drew := BS0.out.below.drew
  have A1 : Below w.heap.size w (w.alloc (.cells #[.slice none 0 0, .slice none 0 0] TF)) := BS0.out.below
  go_upto_region 1 with (fail)
  go_region_held3 (fun w' => w'.cell? ⟨b2, 0, none⟩ = some (.slice (some ⟨b1, o1, none⟩) n c) ∧ w'.cell? ⟨b3, 0, none⟩ = some (.slice (some ⟨b4, o4, none⟩) n c') ∧ w'.cell? ⟨b1, o1 + k, none⟩ = some (.int .i64 (x : Int)) ∧ w'.cell? ⟨b4, o4 + k, none⟩ = some (.int .i64 (y : Int)) ∧ Below w.heap.size w w')
    ((refine HALL.out _ ?_; repeat' (first | exact (by assumption) | exact Below.refl _ _ | refine bl_alloc ?_ _ | refine bse ?_ (by first | omega | (simp; done) | (simp; omega)) _ _ | refine Below.drew ?_)))
    (first
      | (go_at_call 35; (with_reducible refine (HOF.out _ ?_).mono ?_); (first | assumption); rintro e6 w6 ⟨⟨D6, l6, c6, E6, m6, k6, r6, s6, rfl, h6, g6, fx, fy⟩, hb6, t6⟩; obtain ⟨_, lz, kz⟩ := ((BS0.out.drew).on hb6).get (.head _); have q0 : w6.cell? ⟨w.heap.size, 0, none⟩ = some (.slice none 0 0) := kz.cell 0; have q1 : w6.cell? ⟨w.heap.size, 1, none⟩ = some (.slice none 0 0) := kz.cell 1; have f0 : w6.frozen? ⟨w.heap.size, 0, none⟩ = false := kz.frozen 0; have f1 : w6.frozen? ⟨w.heap.size, 1, none⟩ = false := kz.frozen 1)
      | fail)
  all_goals
    go_wp2
    refine bodyPost_ret (v := .tuple #[.agg #[.slice D6 l6 c6, .slice E6 m6 k6], .int .i64 0]) (by simp [results, Try.results34, go_sem, q0, q1]) rfl ?_
    refine ⟨⟨D6, l6, c6, E6, m6, k6, r6, s6, rfl, ?_, g6, fx.mono (by simp), fy.mono (by simp)⟩, bse (bse t6 (Nat.le_refl _) _ _) (Nat.le_refl _) _ _⟩
    exact (h6.set_ fx fy (by simp) 0 _).set_ fx fy (by simp) 1 _
theorem of_s (w : World) {x y : Nat} (hx : x ≤ 9223372036854775807) (hy : y ≤ 9223372036854775807) (hy0 : 0 < y) :
    Calls Try.prog 35 #[.int .i64 (x : Int), .int .i64 (y : Int)] w fun e w' => RS w.heap.size w' e 2 x y ∧ Below w.heap.size w w' :=
  (of_ok w hx hy hy0).mono fun e w' ⟨h, hb⟩ => ⟨rs_of h hy0 (fit_of (by omega)) (fit_of (by omega)) (by omega), hb⟩
theorem rep_le {r s N D r3 s3 M : Nat} (a : Rep r s N D) (b : Rep r3 s3 M 1) (h : M * D ≤ N) : r3 * s ≤ r * s3 := by
  refine Nat.le_of_mul_le_mul_right ?_ a.d0
  have h1 := a.eq
  have h2 := b.eq
  have e1 : r3 * s * D = (M * D) * (s * s3) := by grind
  have e2 : r * s3 * D = N * (s * s3) := by grind
  rw [e1, e2]
  exact Nat.mul_le_mul_right _ h
theorem rep_sub {r s N D r3 s3 M r' s' : Nat} (a : Rep r s N D) (b : Rep r3 s3 M 1) (h : M * D ≤ N) (c : Rep r' s' (r * s3 - r3 * s) (s * s3)) : Rep r' s' (N - M * D) D := by
  refine ⟨?_, c.y0, a.d0⟩
  refine Nat.eq_of_mul_eq_mul_right (Nat.mul_pos a.y0 b.y0) ?_
  have hle := rep_le a b h
  obtain ⟨k, hk⟩ : ∃ k, r * s3 = r3 * s + k := ⟨r * s3 - r3 * s, by omega⟩
  obtain ⟨j, hj⟩ : ∃ j, N = M * D + j := ⟨N - M * D, by omega⟩
  have h1 := a.eq
  have h2 := b.eq
  have h3 := c.eq
  rw [hk, Nat.add_sub_cancel_left] at h3
  rw [hj] at h1 ⊢
  rw [Nat.add_sub_cancel_left]
  have h4 : k * D = j * (s * s3) := by grind
  grind
theorem boxesX (w : World) (S T : Value) : Bs w (((w.alloc (.cells #[S] TS)).alloc (.cells #[T] TS)).alloc (.cells #[.slice none 0 0, .slice none 0 0] TF))
    [(w.heap.size + 1 + 1, TF, #[.slice none 0 0, .slice none 0 0]), (w.heap.size + 1, TS, #[T]), (w.heap.size, TS, #[S])] := by
  have := (((Bs.nil w).alloc TS #[S]).alloc TS #[T]).alloc TF #[.slice none 0 0, .slice none 0 0]
  simp only [World.size_alloc] at this
  exact this
set_option maxHeartbeats 2000000 in
theorem chi_bad {w : World} {A B : Option Addr} {n m c c' : Nat} {x y v : Int} (hv : v ≠ 0)
    (hk : ∀ w', Below w.heap.size w w' → Calls Try.prog 33 #[.slice A n c, .slice B m c'] w' fun e w'' => e = .returned (.tuple #[.int .i64 x, .int .i64 y, .int .i64 v]) ∧ Below w'.heap.size w' w'') :
    Calls Try.prog 15 #[.slice A n c, .slice B m c'] w fun e w' => e = .returned (.tuple #[fv none 0 0 none 0 0, .int .i64 v]) ∧ Below w.heap.size w w' := by
  have BS0 := Lib.hid (boxesX w (.slice A n c) (.slice B m c'))
  have HK := Lib.hid hk
  have hv0 : (v != 0) = true := by simpa using hv
  clear hk hv
  go_enter Try.func15, Try.ntmps15
  go_wp2_with fail
  refine (HK.out _ BS0.out.below).mono ?_
  rintro e w1 ⟨rfl, hb⟩
  have bs := BS0.out.on hb
  obtain ⟨z, hz⟩ : ∃ z, z = w.heap.size + 1 + 1 := ⟨_, rfl⟩
  rw [← hz] at bs ⊢
  have hzw : w.heap.size ≤ z := by omega
  obtain ⟨_, lz, kz⟩ := bs.get (.head _)
  have HB := Lib.hid bs.below
  have r0 : w1.cell? ⟨z, 0, none⟩ = some (.slice none 0 0) := kz.cell 0
  have r1 : w1.cell? ⟨z, 1, none⟩ = some (.slice none 0 0) := kz.cell 1
  have f0 : w1.frozen? ⟨z, 0, none⟩ = false := kz.frozen 0
  have f1 : w1.frozen? ⟨z, 1, none⟩ = false := kz.frozen 1
  clear bs kz hz hb
  go_wp2
  refine bodyPost_ret (v := .tuple #[fv none 0 0 none 0 0, .int .i64 v]) (by unfold fv; simp [results, Try.results15, go_sem, r0, r1]) rfl ?_
  exact ⟨rfl, bse (bse HB.out hzw _ _) hzw _ _⟩
set_option maxHeartbeats 8000000 in
set_option maxRecDepth 100000 in
theorem chi_ok {w : World} {A B : Option Addr} {n c c' ns W : Nat} {o p : Nat → Nat} (hn0 : 0 < n) (hn : n ≤ 12) (hA : Cells w A n (Dg o)) (hB : Cells w B n (Dg p)) (ho : ∀ i, i < n → o i ≤ 1000000) (hp : ∀ i, i < n → 0 < p i ∧ p i ≤ 1000000) (hns : ns = nsum o n) (hW : W = nsum p n) (hns0 : 0 < ns) (hns1 : ns ≤ 80000000) (hW1 : W ≤ 80000000)
    (hk : ∀ w', Below w.heap.size w w' → Calls Try.prog 33 #[.slice A n c, .slice B n c'] w' fun e w'' => e = .returned (.tuple #[.int .i64 (ns : Int), .int .i64 (W : Int), .int .i64 0]) ∧ Below w'.heap.size w' w'') :
    Calls Try.prog 15 #[.slice A n c, .slice B n c'] w fun e w' => RS w.heap.size w' e (3 * n + 6) ((SN o p n).1 * W - ns * ((SN o p n).2 * ns)) ((SN o p n).2 * ns) ∧ Below w.heap.size w w' := by
  have BS0 := Lib.hid (boxesX w (.slice A n c) (.slice B n c'))
  have HK := Lib.hid hk
  have HA := Lib.hid hA
  have HB := Lib.hid hB
  have HO := Lib.hid ho
  have HP := Lib.hid hp
  have HCS : Hid (ns * ((SN o p n).2 * ns) ≤ (SN o p n).1 * W) := Lib.hid (by
    have := (cauchy (o := o) (p := p) (n := n) fun i hi => (hp i hi).1).1
    rw [← hns, ← hW] at this
    calc ns * ((SN o p n).2 * ns) = ns * ns * (SN o p n).2 := by grind
      _ ≤ W * (SN o p n).1 := this
      _ = _ := Nat.mul_comm _ _)
  have HN0 := Lib.hid hns0
  clear hk hA hB ho hp hns hW hns0
  go_enter Try.func15, Try.ntmps15
  go_wp2_with fail
  refine (HK.out _ BS0.out.below).mono ?_
  rintro e w1 ⟨rfl, hb⟩
  obtain ⟨z, hz⟩ : ∃ z, z = w.heap.size + 1 + 1 := ⟨_, rfl⟩
  obtain ⟨b3, hb3⟩ : ∃ z, z = w.heap.size + 1 := ⟨_, rfl⟩
  obtain ⟨b2, hb2⟩ : ∃ z, z = w.heap.size := ⟨_, rfl⟩
  have bs1 := BS0.out.on hb
  have hzw : w.heap.size ≤ z := by omega
  rw [← hz, ← hb3, ← hb2] at bs1
  have BS1 := Lib.hid bs1
  rw [← hz, ← hb3, show (Value.pointer (some ⟨w.heap.size, 0, none⟩)) = .pointer (some ⟨b2, 0, none⟩) by rw [hb2]]
  clear hz hb3 hb2 hb bs1 BS0
  go_wp2_with fail
  refine (of_s w1 (x := 0) (y := 1) (by omega) (by omega) (by omega)).mono ?_
  rintro e w2 ⟨⟨D0, l0, d0, E0, m0, k0, r0, s0, rfl, h0, g0, fx0, fy0⟩, hb⟩
  have BQ := BS1.out.on hb
  have bs2 := BQ.alloc TF #[.slice D0 l0 d0, .slice E0 m0 k0]
  obtain ⟨sb, hsb⟩ : ∃ z, z = w2.heap.size := ⟨_, rfl⟩
  have hsz : z < sb := by have := (BQ.get (.head _)).2.1; omega
  have hs3 : b3 < sb := by have := (BQ.get (.tail _ (.head _))).2.1; omega
  have hs2 : b2 < sb := by have := (BQ.get (.tail _ (.tail _ (.head _)))).2.1; omega
  have hsw : w.heap.size ≤ sb := by omega
  have HF0 := Lib.hid (h0.below (bl_box (o := .cells #[.slice D0 l0 d0, .slice E0 m0 k0] TF)))
  rw [← hsb] at bs2
  obtain ⟨wa, hwa⟩ : ∃ wa, wa = w2.alloc (.cells #[.slice D0 l0 d0, .slice E0 m0 k0] TF) := ⟨_, rfl⟩
  rw [← hwa] at bs2 HF0
  have BS2 := Lib.hid bs2
  have HG0 := Lib.hid g0
  obtain ⟨_, l2, k2⟩ := BQ.get (.tail _ (.tail _ (.head _)))
  have qb2 : w2.cell? ⟨b2, 0, none⟩ = some (.slice A n c) := k2.cell 0
  have qw : wa.cell? ⟨b2, 0, none⟩ = some (.slice A n c) := (BS2.out.get (.tail _ (.tail _ (.tail _ (.head _))))).2.2.cell 0
  have lw : b2 < wa.heap.size := (BS2.out.get (.tail _ (.tail _ (.tail _ (.head _))))).2.1
  clear hb BQ bs2 h0 g0 fx0 fy0 BS1 k2
  go_wp2
  change Code.wp _ _ _ _ (w2.alloc (.cells #[.slice D0 l0 d0, .slice E0 m0 k0] TF))
  rw [← hwa]
  rw [show (Value.pointer (some ⟨w2.heap.size, 0, none⟩)) = .pointer (some ⟨sb, 0, none⟩) by rw [hsb]]
  go_loopw [35, 8] (fun s35 s8 wr => ∃ (k : Nat) (D : Option Addr) (l d : Nat) (E : Option Addr) (m d' r s : Nat), k ≤ n ∧ s35 = .int .i64 (k : Int) ∧ s8 = .int .i64 0 ∧ Hid (FrS wr D l E m r s (3 * k + 2)) ∧ Hid (Rep r s (SN o p k).1 (SN o p k).2) ∧ Hid (Bs w wr [(sb, TF, #[.slice D l d, .slice E m d']), (z, TF, #[.slice none 0 0, .slice none 0 0]), (b3, TS, #[.slice B n c']), (b2, TS, #[.slice A n c])])) (fun i _ _ => n - (intOf i).toNat)
  case atStart => exact ⟨0, D0, l0, d0, E0, m0, k0, r0, s0, Nat.zero_le _, rfl, rfl, HF0, HG0, BS2⟩
  case round =>
    clear HF0 HG0 BS2 qb2 qw l2 lw hwa hsb
    obtain ⟨k, D, l, d, E, m, d', r, s, hk, rfl, rfl, HF, HG, HBS⟩ := hrel
    by_cases hkn : k < n
    · have HKN := Lib.hid hkn
      go_wp2_with fail
      refine (term_any (b2 := b2) (b3 := b3) (k := k) (HBS.out.get (.tail _ (.tail _ (.tail _ (.head _))))).2.2 (HBS.out.get (.tail _ (.tail _ (.head _)))).2.2 (HA.out.below HBS.out.below) (HB.out.below HBS.out.below) HKN.out (by omega) (HO.out k HKN.out) (HP.out k HKN.out).1 (HP.out k HKN.out).2).mono ?_
      rintro e w3 ⟨⟨D3, l3, d3, E3, m3, k3, r3, s3, rfl, h3, g3, fx3, fy3⟩, hb⟩
      have BQ := Lib.hid (HBS.out.on hb)
      have BS3 := Lib.hid (BQ.out.alloc TF #[.slice D3 l3 d3, .slice E3 m3 k3])
      have F3 := Lib.hid (h3.below (bl_box (o := .cells #[.slice D3 l3 d3, .slice E3 m3 k3] TF)))
      have G3 := Lib.hid g3
      have HF3 := Lib.hid ((HF.out.below hb).below (bl_box (o := .cells #[.slice D3 l3 d3, .slice E3 m3 k3] TF)))
      obtain ⟨_, ls, ks⟩ := BQ.out.get (.head _)
      have q0 : w3.cell? ⟨sb, 0, none⟩ = some (.slice D l d) := ks.cell 0
      have q1 : w3.cell? ⟨sb, 1, none⟩ = some (.slice E m d') := ks.cell 1
      clear hb h3 g3 fx3 fy3 ks HF HBS
      go_wp2_with fail
      refine (add_s HF3.out F3.out (by omega)).mono ?_
      rintro e w4 ⟨⟨D4, l4, d4, E4, m4, k4, r4, s4, rfl, h4, g4, fx4, fy4⟩, hb⟩
      have BS4 := Lib.hid (BS3.out.on hb)
      have F4 := Lib.hid h4
      have G4 := Lib.hid (show Rep r4 s4 (SN o p (k + 1)).1 (SN o p (k + 1)).2 by rw [SN]; exact HG.out.add G3.out g4)
      have FX := Lib.hid fx4
      have FY := Lib.hid fy4
      have LS := Lib.hid (BS3.out.get (.tail _ (.head _))).2.1
      clear hb q0 q1 ls BS3 BQ HF3 F3 G3 h4 g4 fx4 fy4
      obtain ⟨_, ls, ks⟩ := BS4.out.get (.tail _ (.head _))
      have q0 : w4.cell? ⟨sb, 0, none⟩ = some (.slice D l d) := ks.cell 0
      have q1 : w4.cell? ⟨sb, 1, none⟩ = some (.slice E m d') := ks.cell 1
      have f0 : w4.frozen? ⟨sb, 0, none⟩ = false := ks.frozen 0
      have f1 : w4.frozen? ⟨sb, 1, none⟩ = false := ks.frozen 1
      clear ks
      go_wp2
      go_roundw
      case rel =>
        refine ⟨k + 1, D4, l4, d4, E4, m4, k4, r4, s4, by have := HKN.out; omega, by go_num, rfl, ?_, G4, ?_⟩
        · rw [show 3 * (k + 1) + 2 = 3 * k + 2 + 2 + 1 by omega]
          exact (F4.out.set_ FX.out FY.out LS.out 0 _).set_ FX.out FY.out LS.out 1 _
        · refine Bs.put (cs := #[.slice D4 l4 d4, .slice E m d']) (Bs.put (cs := #[.slice D l d, .slice E m d']) (BS4.out.sub fun x hx => .tail _ hx) ?_ 0 _) ?_ 1 _
          all_goals
            intro b' t' cs' hb
            simp at hb
            omega
      case measure => have := HKN.out; simp [intOf] <;> omega
    · obtain rfl : k = n := by omega
      go_wp2_with fail
      refine (of_s wr (x := W) (y := ns) (by omega) (by omega) HN0.out).mono ?_
      rintro e w3 ⟨⟨D3, l3, d3, E3, m3, k3, r3, s3, rfl, h3, g3, fx3, fy3⟩, hb⟩
      have BQ := Lib.hid (HBS.out.on hb)
      have BS3 := Lib.hid (BQ.out.alloc TF #[.slice D3 l3 d3, .slice E3 m3 k3])
      have F3 := Lib.hid (h3.below (bl_box (o := .cells #[.slice D3 l3 d3, .slice E3 m3 k3] TF)))
      have G3 := Lib.hid g3
      have HF3 := Lib.hid ((HF.out.below hb).below (bl_box (o := .cells #[.slice D3 l3 d3, .slice E3 m3 k3] TF)))
      obtain ⟨_, ls, ks⟩ := BQ.out.get (.head _)
      have q0 : w3.cell? ⟨sb, 0, none⟩ = some (.slice D l d) := ks.cell 0
      have q1 : w3.cell? ⟨sb, 1, none⟩ = some (.slice E m d') := ks.cell 1
      clear hb h3 g3 fx3 fy3 ks HF HBS
      go_wp2_with fail
      refine (mul_s HF3.out F3.out (by omega)).mono ?_
      rintro e w4 ⟨⟨D4, l4, d4, E4, m4, k4, r4, s4, rfl, h4, g4, fx4, fy4⟩, hb⟩
      have BQ4 := Lib.hid (BS3.out.on hb)
      have BS4 := Lib.hid (BQ4.out.alloc TF #[.slice D4 l4 d4, .slice E4 m4 k4])
      have F4 := Lib.hid (h4.below (bl_box (o := .cells #[.slice D4 l4 d4, .slice E4 m4 k4] TF)))
      have G4 := Lib.hid (HG.out.mul G3.out g4)
      clear hb q0 q1 ls BS3 BQ HF3 F3 G3 HG h4 g4 fx4 fy4
      go_wp2_with fail
      refine (of_s _ (x := ns) (y := 1) (by omega) (by omega) (by omega)).mono ?_
      rintro e w5 ⟨⟨D5, l5, d5, E5, m5, k5, r5, s5, rfl, h5, g5, fx5, fy5⟩, hb⟩
      have BQ5 := Lib.hid (BS4.out.on hb)
      have BS5 := Lib.hid (BQ5.out.alloc TF #[.slice D5 l5 d5, .slice E5 m5 k5])
      have F5 := Lib.hid (h5.below (bl_box (o := .cells #[.slice D5 l5 d5, .slice E5 m5 k5] TF)))
      have G5 := Lib.hid g5
      have F45 := Lib.hid ((F4.out.below hb).below (bl_box (o := .cells #[.slice D5 l5 d5, .slice E5 m5 k5] TF)))
      obtain ⟨_, ls, ks⟩ := BQ5.out.get (.head _)
      have q0 : w5.cell? ⟨w4.heap.size, 0, none⟩ = some (.slice D4 l4 d4) := ks.cell 0
      have q1 : w5.cell? ⟨w4.heap.size, 1, none⟩ = some (.slice E4 m4 k4) := ks.cell 1
      clear hb h5 g5 fx5 fy5 ks F4 BS4 BQ4
      go_wp2_with fail
      refine (sub_s F45.out F5.out (by omega) (rep_le G4.out G5.out HCS.out)).mono ?_
      rintro e w6 ⟨⟨D6, l6, d6, E6, m6, k6, r6, s6, rfl, h6, g6, fx6, fy6⟩, hb⟩
      have BS6 := Lib.hid (BS5.out.on hb)
      have F6 := Lib.hid h6
      have G6 := Lib.hid (rep_sub G4.out G5.out HCS.out g6)
      have FX := Lib.hid fx6
      have FY := Lib.hid fy6
      have LZ := Lib.hid (BS5.out.get (.tail _ (.tail _ (.tail _ (.tail _ (.head _)))))).2.1
      have HW := Lib.hid BS5.out.below.size
      clear hb q0 q1 ls BS5 BQ5 F45 F5 G5 G4 h6 g6 fx6 fy6
      obtain ⟨_, lz, kz⟩ := BS6.out.get (.tail _ (.tail _ (.tail _ (.tail _ (.head _)))))
      have q0 : w6.cell? ⟨z, 0, none⟩ = some (.slice none 0 0) := kz.cell 0
      have q1 : w6.cell? ⟨z, 1, none⟩ = some (.slice none 0 0) := kz.cell 1
      have f0 : w6.frozen? ⟨z, 0, none⟩ = false := kz.frozen 0
      have f1 : w6.frozen? ⟨z, 1, none⟩ = false := kz.frozen 1
      have HB7 := Lib.hid BS6.out.below
      clear kz
      go_wp2
      refine bodyPost_ret (v := .tuple #[.agg #[.slice D6 l6 d6, .slice E6 m6 k6], .int .i64 0]) (by simp [results, Try.results15, go_sem, q0, q1]) rfl ?_
      refine ⟨⟨D6, l6, d6, E6, m6, k6, r6, s6, rfl, ?_, G6.out, FX.out.mono HW.out, FY.out.mono HW.out⟩, bse (bse HB7.out hzw _ _) hzw _ _⟩
      exact (F6.out.set_ FX.out FY.out LZ.out 0 _).set_ FX.out FY.out LZ.out 1 _
end Fa
end Go.Proofs.Ytiflmnmkmpjecaa
