/- The walk of the law FracField (draft). -/
import Derived.Test.YteclghokkdkolaaFrLawOrders
import Derived.Test.YteclghokkdkolaaRows
import Derived.Deep.DeepCutAuto
import Derived.Deep.RegionHeld3
set_option linter.unusedVariables false
namespace Go.Proofs.Yteclghokkdkolaa
open Go.RowKit
namespace Fr
/-- x / y is the number N / D. -/
structure Rep (x y N D : Nat) : Prop where
  eq : x * D = N * y
  y0 : 0 < y
  d0 : 0 < D
theorem Rep.self {x y : Nat} (h : 0 < y) : Rep x y x y := ⟨rfl, h, h⟩
theorem Rep.red {x y : Nat} (hy : 0 < y) : Rep (x / Nat.gcd x y) (y / Nat.gcd x y) x y := by
  have hg := Nat.gcd_pos_of_pos_right x hy
  refine ⟨?_, Nat.div_pos (Nat.le_of_dvd hy (Nat.gcd_dvd_right x y)) hg, hy⟩
  obtain ⟨a, ha⟩ := Nat.gcd_dvd_left x y
  obtain ⟨b, hb⟩ := Nat.gcd_dvd_right x y
  generalize Nat.gcd x y = g at ha hb hg ⊢
  subst ha
  rw [hb, Nat.mul_div_cancel_left _ hg, Nat.mul_div_cancel_left _ hg]
  grind
theorem Rep.add {x y N D x' y' N' D' r s : Nat} (a : Rep x y N D) (b : Rep x' y' N' D') (c : Rep r s (x * y' + x' * y) (y * y')) : Rep r s (N * D' + N' * D) (D * D') := by
  refine ⟨?_, c.y0, Nat.mul_pos a.d0 b.d0⟩
  refine Nat.eq_of_mul_eq_mul_right (Nat.mul_pos a.y0 b.y0) ?_
  have h1 := a.eq
  have h2 := b.eq
  have h3 := c.eq
  grind
theorem Rep.sub {x y N D x' y' r s : Nat} (a : Rep x y (N + x' * D) (D * y')) (hle : x' * y ≤ x * y') (hy' : 0 < y') (hD : 0 < D) (c : Rep r s (x * y' - x' * y) (y * y')) : Rep r s N (D * y') := by
  refine ⟨?_, c.y0, Nat.mul_pos hD hy'⟩
  refine Nat.eq_of_mul_eq_mul_right (Nat.mul_pos a.y0 hy') ?_
  have h1 := a.eq
  have h3 := c.eq
  obtain ⟨k, hk⟩ : ∃ k, x * y' = x' * y + k := ⟨x * y' - x' * y, by omega⟩
  rw [hk, Nat.add_sub_cancel_left] at h3
  have h4 : k * D = N * y := by grind
  grind
theorem Rep.mul {x y N D x' y' N' D' r s : Nat} (a : Rep x y N D) (b : Rep x' y' N' D') (c : Rep r s (x * x') (y * y')) : Rep r s (N * N') (D * D') := by
  refine ⟨?_, c.y0, Nat.mul_pos a.d0 b.d0⟩
  refine Nat.eq_of_mul_eq_mul_right (Nat.mul_pos a.y0 b.y0) ?_
  have h1 := a.eq
  have h2 := b.eq
  have h3 := c.eq
  grind
theorem Rep.same {x y N D x' y' N' D' : Nat} (a : Rep x y N D) (b : Rep x' y' N' D') (h : fok x y = true) (k : fok x' y' = true) (e : N * D' = N' * D) : x = x' ∧ y = y' := by
  refine cross_eq h k ?_
  refine Nat.eq_of_mul_eq_mul_right (Nat.mul_pos a.d0 b.d0) ?_
  have h1 := a.eq
  have h2 := b.eq
  grind
/-- A valid fraction in memory whose parts have at most K limbs. -/
structure FrS (w : World) (D : Option Addr) (n : Nat) (E : Option Addr) (m : Nat) (x y K : Nat) : Prop where
  num : FrNum w D n E m x y
  kx : Fit32 x K
  ky : Fit32 y K
theorem FrS.below {W w : World} {D E : Option Addr} {n m x y K : Nat} (a : FrS W D n E m x y K) (h : Below W.heap.size W w) : FrS w D n E m x y K := ⟨a.num.below h, a.kx, a.ky⟩
theorem FrNum.s8 {w : World} {D E : Option Addr} {n m x y : Nat} (a : FrNum w D n E m x y) (h : n ≤ 8) (k : m ≤ 8) : FrS w D n E m x y 8 :=
  ⟨a, fit32_mono (fit32_len x) (by rw [← a.nx]; exact h), fit32_mono (fit32_len y) (by rw [← a.my]; exact k)⟩
/-- What a call on fractions returns: a fraction of at most K limbs that is the number N / D. -/
def RS (B : Nat) (w' : World) (e : Ending) (K N M : Nat) : Prop :=
  ∃ (D : Option Addr) (l c : Nat) (E : Option Addr) (m c' r s : Nat), e = .returned (.tuple #[.agg #[.slice D l c, .slice E m c'], .int .i64 0]) ∧ FrS w' D l E m r s K ∧ Rep r s N M ∧ Fresh B D ∧ Fresh B E
theorem rs_of {B : Nat} {w' : World} {e : Ending} {a b K : Nat} (h : Res B w' e (a / Nat.gcd a b) (b / Nat.gcd a b)) (hb : 0 < b) (ka : Fit32 a K) (kb : Fit32 b K) (hK : K ≤ 64) : RS B w' e K a b := by
  obtain ⟨D, c, E, c', he, _, _, hc, hd, f1, f2⟩ := h
  have k1 : Fit32 (a / Nat.gcd a b) K := Nat.lt_of_le_of_lt (Nat.div_le_self _ _) ka
  have k2 : Fit32 (b / Nat.gcd a b) K := Nat.lt_of_le_of_lt (Nat.div_le_self _ _) kb
  exact ⟨D, _, c, E, _, c', _, _, he, ⟨⟨Nat.le_trans (fit32_le k1) hK, Nat.le_trans (fit32_le k2) hK, rfl, rfl, hc, hd, fok_low hb⟩, k1, k2⟩, Rep.red hb, f1, f2⟩
section
variable {xn xd yn yd K L : Nat} {w : World} {D0 D1 D2 D3 : Option Addr} {n0 n1 n2 n3 c0 c1 c2 c3 : Nat}
theorem add_s (a : FrS w D0 n0 D1 n1 xn xd K) (b : FrS w D2 n2 D3 n3 yn yd L) (hK : K + L + 1 ≤ 64) :
    Calls Try.prog 24 #[.agg #[.slice D0 n0 c0, .slice D1 n1 c1], .agg #[.slice D2 n2 c2, .slice D3 n3 c3]] w fun e w' => RS w.heap.size w' e (K + L + 1) (xn * yd + yn * xd) (xd * yd) ∧ Below w.heap.size w w' := by
  have f1 : Fit32 (xn * yd) (K + L) := fit32_mul a.kx b.ky
  have f2 : Fit32 (yn * xd) (K + L) := by rw [Nat.add_comm K L]; exact fit32_mul b.kx a.ky
  have f3 : Fit32 (xd * yd) (K + L) := fit32_mul a.ky b.ky
  have f4 := fit_add f1 f2
  refine (add_ok a.num.n64 a.num.m64 b.num.n64 b.num.m64 a.num.nx a.num.my b.num.nx b.num.my a.num.cx a.num.cy b.num.cx b.num.cy a.num.ok b.num.ok).mono ?_
  rintro e w' ⟨⟨_, h⟩ | ⟨h, _⟩, hb⟩
  · exact ⟨rs_of h (Nat.mul_pos (fok_pos a.num.ok) (fok_pos b.num.ok)) f4 (fit32_mono f3 (by omega)) hK, hb⟩
  · exact absurd ⟨Nat.le_trans (fit32_le f1) (by omega), Nat.le_trans (fit32_le f2) (by omega), Nat.le_trans (fit32_le f3) (by omega), Nat.le_trans (fit32_le f4) hK⟩ h
theorem sub_s (a : FrS w D0 n0 D1 n1 xn xd K) (b : FrS w D2 n2 D3 n3 yn yd L) (hK : K + L ≤ 64) (hle : yn * xd ≤ xn * yd) :
    Calls Try.prog 26 #[.agg #[.slice D0 n0 c0, .slice D1 n1 c1], .agg #[.slice D2 n2 c2, .slice D3 n3 c3]] w fun e w' => RS w.heap.size w' e (K + L) (xn * yd - yn * xd) (xd * yd) ∧ Below w.heap.size w w' := by
  have f1 : Fit32 (xn * yd) (K + L) := fit32_mul a.kx b.ky
  have f2 : Fit32 (yn * xd) (K + L) := by rw [Nat.add_comm K L]; exact fit32_mul b.kx a.ky
  have f3 : Fit32 (xd * yd) (K + L) := fit32_mul a.ky b.ky
  refine (sub_ok a.num.n64 a.num.m64 b.num.n64 b.num.m64 a.num.nx a.num.my b.num.nx b.num.my a.num.cx a.num.cy b.num.cx b.num.cy a.num.ok b.num.ok hle).mono ?_
  rintro e w' ⟨⟨_, h⟩ | ⟨h, _⟩, hb⟩
  · exact ⟨rs_of h (Nat.mul_pos (fok_pos a.num.ok) (fok_pos b.num.ok)) (Nat.lt_of_le_of_lt (Nat.sub_le _ _) f1) f3 hK, hb⟩
  · exact absurd ⟨Nat.le_trans (fit32_le f1) (by omega), Nat.le_trans (fit32_le f2) (by omega), Nat.le_trans (fit32_le f3) (by omega)⟩ h
theorem mul_s (a : FrS w D0 n0 D1 n1 xn xd K) (b : FrS w D2 n2 D3 n3 yn yd L) (hK : K + L ≤ 64) :
    Calls Try.prog 28 #[.agg #[.slice D0 n0 c0, .slice D1 n1 c1], .agg #[.slice D2 n2 c2, .slice D3 n3 c3]] w fun e w' => RS w.heap.size w' e (K + L) (xn * yn) (xd * yd) ∧ Below w.heap.size w w' := by
  have f1 : Fit32 (xn * yn) (K + L) := fit32_mul a.kx b.kx
  have f3 : Fit32 (xd * yd) (K + L) := fit32_mul a.ky b.ky
  refine (mul_ok a.num.n64 a.num.m64 b.num.n64 b.num.m64 a.num.nx a.num.my b.num.nx b.num.my a.num.cx a.num.cy b.num.cx b.num.cy a.num.ok b.num.ok).mono ?_
  rintro e w' ⟨⟨_, h⟩ | ⟨h, _⟩, hb⟩
  · exact ⟨rs_of h (Nat.mul_pos (fok_pos a.num.ok) (fok_pos b.num.ok)) f1 f3 hK, hb⟩
  · exact absurd ⟨Nat.le_trans (fit32_le f1) (by omega), Nat.le_trans (fit32_le f3) (by omega)⟩ h
theorem div_s (a : FrS w D0 n0 D1 n1 xn xd K) (b : FrS w D2 n2 D3 n3 yn yd L) (hK : K + L ≤ 64) (hyn : 0 < yn) :
    Calls Try.prog 30 #[.agg #[.slice D0 n0 c0, .slice D1 n1 c1], .agg #[.slice D2 n2 c2, .slice D3 n3 c3]] w fun e w' => RS w.heap.size w' e (K + L) (xn * yd) (xd * yn) ∧ Below w.heap.size w w' := by
  have f1 : Fit32 (xn * yd) (K + L) := fit32_mul a.kx b.ky
  have f3 : Fit32 (xd * yn) (K + L) := fit32_mul a.ky b.kx
  refine (div_ok a.num.n64 a.num.m64 b.num.n64 b.num.m64 a.num.nx a.num.my b.num.nx b.num.my a.num.cx a.num.cy b.num.cx b.num.cy a.num.ok b.num.ok hyn).mono ?_
  rintro e w' ⟨⟨_, h⟩ | ⟨h, _⟩, hb⟩
  · exact ⟨rs_of h (Nat.mul_pos (fok_pos a.num.ok) hyn) f1 f3 hK, hb⟩
  · exact absurd ⟨Nat.le_trans (fit32_le f1) (by omega), Nat.le_trans (fit32_le f3) (by omega)⟩ h
theorem same_s (a : FrS w D0 n0 D1 n1 xn xd K) (b : FrS w D2 n2 D3 n3 yn yd L) (h : xn = yn ∧ xd = yd) :
    Calls Try.prog 16 #[.agg #[.slice D0 n0 c0, .slice D1 n1 c1], .agg #[.slice D2 n2 c2, .slice D3 n3 c3]] w fun e w' => e = .returned (.bool true) ∧ Below w.heap.size w w' :=
  same_num a.num b.num (by rw [decide_eq_true h.1, decide_eq_true h.2]; rfl)
end
theorem boxes4F (w : World) (S T U V X Y P Q : Value) : Bs w ((((w.alloc (.cells #[S, T] TF)).alloc (.cells #[U, V] TF)).alloc (.cells #[X, Y] TF)).alloc (.cells #[P, Q] TF)) [(w.heap.size + 1 + 1 + 1, TF, #[P, Q]), (w.heap.size + 1 + 1, TF, #[X, Y]), (w.heap.size + 1, TF, #[U, V]), (w.heap.size, TF, #[S, T])] := by
  have := ((((Bs.nil w).alloc TF #[S, T]).alloc TF #[U, V]).alloc TF #[X, Y]).alloc TF #[P, Q]
  simp only [World.size_alloc] at this
  exact this
theorem FrS.set_ {w : World} {D E : Option Addr} {n m x y K B g : Nat} (h : FrS w D n E m x y K) (f1 : Fresh B D) (f2 : Fresh B E) (hg : g < B) (i : Nat) (u : Value) : FrS (w.setCell ⟨g, i, none⟩ u) D n E m x y K :=
  ⟨{ h.num with cx := h.num.cx.set_ f1 hg i u, cy := h.num.cy.set_ f2 hg i u }, h.kx, h.ky⟩
theorem bl_box {w : World} (o : Obj) : Below w.heap.size w (w.alloc o) := (Below.refl _ _).alloc (Nat.le_refl _) _
section
variable {x0 y0 x1 y1 x2 y2 x3 y3 ra sa rb sb rc sc rd sd re se rf sf rg sg rh sh ri si rj sj : Nat}
theorem p_comm (a : Rep ra sa (x0 * x1) (y0 * y1)) (b : Rep rb sb (x1 * x0) (y1 * y0)) (h : fok ra sa = true) (k : fok rb sb = true) : ra = rb ∧ sa = sb :=
  a.same b h k (by grind)
theorem p_dist (k0 : 0 < y0) (k1 : Rep x3 y3 (x1 * y2 + x2 * y1) (y1 * y2)) (a : Rep ra sa (x0 * x1) (y0 * y1)) (c : Rep rc sc (x0 * x2) (y0 * y2)) (d : Rep rd sd (x0 * x3) (y0 * y3)) (e : Rep re se (ra * sc + rc * sa) (sa * sc)) (h : fok rd sd = true) (k : fok re se = true) : rd = re ∧ sd = se := by
  refine ((Rep.self k0).mul k1 d).same (a.add c e) h k ?_
  grind
theorem p_assoc (k0 : 0 < y0) (k2 : 0 < y2) (a : Rep ra sa (x0 * x1) (y0 * y1)) (f : Rep rf sf (ra * x2) (sa * y2)) (g : Rep rg sg (x1 * x2) (y1 * y2)) (b : Rep rh sh (x0 * rg) (y0 * sg)) (h : fok rf sf = true) (k : fok rh sh = true) : rf = rh ∧ sf = sh := by
  refine (a.mul (Rep.self k2) f).same ((Rep.self k0).mul g b) h k ?_
  grind
theorem p_one (k0 : fok x0 y0 = true) (a : Rep ri si (x0 * 1) (y0 * 1)) (h : fok ri si = true) : ri = x0 ∧ si = y0 :=
  a.same (Rep.self (fok_pos k0)) h k0 (by grind)
theorem p_back (k0 : fok x0 y0 = true) (k1 : 0 < x1) (a : Rep ra sa (x0 * x1) (y0 * y1)) (b : Rep rj sj (ra * y1) (sa * x1)) (h : fok rj sj = true) : rj = x0 ∧ sj = y0 := by
  refine (a.mul (Rep.self (x := y1) k1) b).same (Rep.self (fok_pos k0)) h k0 ?_
  grind
end
set_option maxHeartbeats 8000000 in
set_option maxRecDepth 100000 in
theorem products_ok {W : World} {D0 E0 D1 E1 D2 E2 D3 E3 : Option Addr} {n0 m0 n1 m1 n2 m2 n3 m3 c0 d0 c1 d1 c2 d2 c3 d3 x0 y0 x1 y1 x2 y2 x3 y3 : Nat} (a0 : FrS W D0 n0 E0 m0 x0 y0 8) (a1 : FrS W D1 n1 E1 m1 x1 y1 8) (a2 : FrS W D2 n2 E2 m2 x2 y2 8) (a3 : FrS W D3 n3 E3 m3 x3 y3 17) (r3 : Rep x3 y3 (x1 * y2 + x2 * y1) (y1 * y2)) :
    Calls Try.prog 35 #[fv D0 n0 c0 E0 m0 d0, fv D1 n1 c1 E1 m1 d1, fv D2 n2 c2 E2 m2 d2, fv D3 n3 c3 E3 m3 d3] W fun e w' => e = .returned (.bool true) ∧ Below W.heap.size W w' := by
  have BS0 := Lib.hid (boxes4F W (.slice D0 n0 c0) (.slice E0 m0 d0) (.slice D1 n1 c1) (.slice E1 m1 d1) (.slice D2 n2 c2) (.slice E2 m2 d2) (.slice D3 n3 c3) (.slice E3 m3 d3))
  have S0 := Lib.hid (a0.below BS0.out.below)
  have S1 := Lib.hid (a1.below BS0.out.below)
  have S2 := Lib.hid (a2.below BS0.out.below)
  have S3 := Lib.hid (a3.below BS0.out.below)
  have R3 := Lib.hid r3
  clear a0 a1 a2 a3 r3
  unfold fv
  go_enter Try.func35, Try.ntmps35
  go_wp2_with fail
  refine (mul_s S0.out S1.out (by omega)).mono ?_
  rintro e w1 ⟨⟨Da, la, ca, Ea, ma, ka, ra, sa, rfl, sx, rx, _, _⟩, hb⟩
  have BQ := Lib.hid (BS0.out.on hb)
  have BS1 := Lib.hid (BQ.out.alloc TF #[.slice Da la ca, .slice Ea ma ka])
  replace S0 := Lib.hid ((S0.out.below hb).below ((Below.refl _ _).alloc (Nat.le_refl _) (.cells #[.slice Da la ca, .slice Ea ma ka] TF)))
  replace S1 := Lib.hid ((S1.out.below hb).below ((Below.refl _ _).alloc (Nat.le_refl _) (.cells #[.slice Da la ca, .slice Ea ma ka] TF)))
  replace S2 := Lib.hid ((S2.out.below hb).below ((Below.refl _ _).alloc (Nat.le_refl _) (.cells #[.slice Da la ca, .slice Ea ma ka] TF)))
  replace S3 := Lib.hid ((S3.out.below hb).below ((Below.refl _ _).alloc (Nat.le_refl _) (.cells #[.slice Da la ca, .slice Ea ma ka] TF)))
  have Sa := Lib.hid (sx.below ((Below.refl _ _).alloc (Nat.le_refl _) (.cells #[.slice Da la ca, .slice Ea ma ka] TF)))
  have Ra := Lib.hid rx
  clear hb sx rx BS0 
  have q := BQ.out.get (.tail _ (.tail _ (.head _)))
  have ql1 := q.2.1
  have qa1 : w1.cell? ⟨W.heap.size + 1, 0, none⟩ = some (.slice D1 n1 c1) := q.2.2.cell 0
  have qb1 : w1.cell? ⟨W.heap.size + 1, 1, none⟩ = some (.slice E1 m1 d1) := q.2.2.cell 1
  clear q
  have q := BQ.out.get (.tail _ (.tail _ (.tail _ (.head _))))
  have ql0 := q.2.1
  have qa0 : w1.cell? ⟨W.heap.size, 0, none⟩ = some (.slice D0 n0 c0) := q.2.2.cell 0
  have qb0 : w1.cell? ⟨W.heap.size, 1, none⟩ = some (.slice E0 m0 d0) := q.2.2.cell 1
  clear q
  go_wp2_with fail
  refine (mul_s S1.out S0.out (by omega)).mono ?_
  rintro e w2 ⟨⟨Db, lb, cb, Eb, mb, kb, rb, sb, rfl, sx, rx, _, _⟩, hb⟩
  clear BQ
  have BQ := Lib.hid (BS1.out.on hb)
  have BS2 := Lib.hid (BQ.out.alloc TF #[.slice Db lb cb, .slice Eb mb kb])
  replace S0 := Lib.hid ((S0.out.below hb).below ((Below.refl _ _).alloc (Nat.le_refl _) (.cells #[.slice Db lb cb, .slice Eb mb kb] TF)))
  replace S1 := Lib.hid ((S1.out.below hb).below ((Below.refl _ _).alloc (Nat.le_refl _) (.cells #[.slice Db lb cb, .slice Eb mb kb] TF)))
  replace S2 := Lib.hid ((S2.out.below hb).below ((Below.refl _ _).alloc (Nat.le_refl _) (.cells #[.slice Db lb cb, .slice Eb mb kb] TF)))
  replace S3 := Lib.hid ((S3.out.below hb).below ((Below.refl _ _).alloc (Nat.le_refl _) (.cells #[.slice Db lb cb, .slice Eb mb kb] TF)))
  replace Sa := Lib.hid ((Sa.out.below hb).below ((Below.refl _ _).alloc (Nat.le_refl _) (.cells #[.slice Db lb cb, .slice Eb mb kb] TF)))
  have Sb := Lib.hid (sx.below ((Below.refl _ _).alloc (Nat.le_refl _) (.cells #[.slice Db lb cb, .slice Eb mb kb] TF)))
  have Rb := Lib.hid rx
  clear hb sx rx BS1 ql1 qa1 qb1 ql0 qa0 qb0
  have q := BQ.out.get (.tail _ (.tail _ (.tail _ (.tail _ (.head _)))))
  have ql0 := q.2.1
  have qa0 : w2.cell? ⟨W.heap.size, 0, none⟩ = some (.slice D0 n0 c0) := q.2.2.cell 0
  have qb0 : w2.cell? ⟨W.heap.size, 1, none⟩ = some (.slice E0 m0 d0) := q.2.2.cell 1
  clear q
  have q := BQ.out.get (.tail _ (.tail _ (.head _)))
  have ql2 := q.2.1
  have qa2 : w2.cell? ⟨W.heap.size + 1 + 1, 0, none⟩ = some (.slice D2 n2 c2) := q.2.2.cell 0
  have qb2 : w2.cell? ⟨W.heap.size + 1 + 1, 1, none⟩ = some (.slice E2 m2 d2) := q.2.2.cell 1
  clear q
  go_wp2_with fail
  refine (mul_s S0.out S2.out (by omega)).mono ?_
  rintro e w3 ⟨⟨Dc, lc, cc, Ec, mc, kc, rc, sc, rfl, sx, rx, _, _⟩, hb⟩
  clear BQ
  have BQ := Lib.hid (BS2.out.on hb)
  have BS3 := Lib.hid (BQ.out.alloc TF #[.slice Dc lc cc, .slice Ec mc kc])
  replace S0 := Lib.hid ((S0.out.below hb).below ((Below.refl _ _).alloc (Nat.le_refl _) (.cells #[.slice Dc lc cc, .slice Ec mc kc] TF)))
  replace S1 := Lib.hid ((S1.out.below hb).below ((Below.refl _ _).alloc (Nat.le_refl _) (.cells #[.slice Dc lc cc, .slice Ec mc kc] TF)))
  replace S2 := Lib.hid ((S2.out.below hb).below ((Below.refl _ _).alloc (Nat.le_refl _) (.cells #[.slice Dc lc cc, .slice Ec mc kc] TF)))
  replace S3 := Lib.hid ((S3.out.below hb).below ((Below.refl _ _).alloc (Nat.le_refl _) (.cells #[.slice Dc lc cc, .slice Ec mc kc] TF)))
  replace Sa := Lib.hid ((Sa.out.below hb).below ((Below.refl _ _).alloc (Nat.le_refl _) (.cells #[.slice Dc lc cc, .slice Ec mc kc] TF)))
  replace Sb := Lib.hid ((Sb.out.below hb).below ((Below.refl _ _).alloc (Nat.le_refl _) (.cells #[.slice Dc lc cc, .slice Ec mc kc] TF)))
  have Sc := Lib.hid (sx.below ((Below.refl _ _).alloc (Nat.le_refl _) (.cells #[.slice Dc lc cc, .slice Ec mc kc] TF)))
  have Rc := Lib.hid rx
  clear hb sx rx BS2 ql0 qa0 qb0 ql2 qa2 qb2
  have q := BQ.out.get (.tail _ (.tail _ (.tail _ (.tail _ (.tail _ (.head _))))))
  have ql0 := q.2.1
  have qa0 : w3.cell? ⟨W.heap.size, 0, none⟩ = some (.slice D0 n0 c0) := q.2.2.cell 0
  have qb0 : w3.cell? ⟨W.heap.size, 1, none⟩ = some (.slice E0 m0 d0) := q.2.2.cell 1
  clear q
  have q := BQ.out.get (.tail _ (.tail _ (.head _)))
  have ql3 := q.2.1
  have qa3 : w3.cell? ⟨W.heap.size + 1 + 1 + 1, 0, none⟩ = some (.slice D3 n3 c3) := q.2.2.cell 0
  have qb3 : w3.cell? ⟨W.heap.size + 1 + 1 + 1, 1, none⟩ = some (.slice E3 m3 d3) := q.2.2.cell 1
  clear q
  go_wp2_with fail
  refine (mul_s S0.out S3.out (by omega)).mono ?_
  rintro e w4 ⟨⟨Dd, ld, cd, Ed, md, kd, rd, sd, rfl, sx, rx, _, _⟩, hb⟩
  clear BQ
  have BQ := Lib.hid (BS3.out.on hb)
  have BS4 := Lib.hid (BQ.out.alloc TF #[.slice Dd ld cd, .slice Ed md kd])
  replace S0 := Lib.hid ((S0.out.below hb).below ((Below.refl _ _).alloc (Nat.le_refl _) (.cells #[.slice Dd ld cd, .slice Ed md kd] TF)))
  replace S1 := Lib.hid ((S1.out.below hb).below ((Below.refl _ _).alloc (Nat.le_refl _) (.cells #[.slice Dd ld cd, .slice Ed md kd] TF)))
  replace S2 := Lib.hid ((S2.out.below hb).below ((Below.refl _ _).alloc (Nat.le_refl _) (.cells #[.slice Dd ld cd, .slice Ed md kd] TF)))
  replace S3 := Lib.hid ((S3.out.below hb).below ((Below.refl _ _).alloc (Nat.le_refl _) (.cells #[.slice Dd ld cd, .slice Ed md kd] TF)))
  replace Sa := Lib.hid ((Sa.out.below hb).below ((Below.refl _ _).alloc (Nat.le_refl _) (.cells #[.slice Dd ld cd, .slice Ed md kd] TF)))
  replace Sb := Lib.hid ((Sb.out.below hb).below ((Below.refl _ _).alloc (Nat.le_refl _) (.cells #[.slice Dd ld cd, .slice Ed md kd] TF)))
  replace Sc := Lib.hid ((Sc.out.below hb).below ((Below.refl _ _).alloc (Nat.le_refl _) (.cells #[.slice Dd ld cd, .slice Ed md kd] TF)))
  have Sd := Lib.hid (sx.below ((Below.refl _ _).alloc (Nat.le_refl _) (.cells #[.slice Dd ld cd, .slice Ed md kd] TF)))
  have Rd := Lib.hid rx
  clear hb sx rx BS3 ql0 qa0 qb0 ql3 qa3 qb3
  have q := BQ.out.get (.tail _ (.tail _ (.head _)))
  have qla := q.2.1
  have qaa : w4.cell? ⟨w1.heap.size, 0, none⟩ = some (.slice Da la ca) := q.2.2.cell 0
  have qba : w4.cell? ⟨w1.heap.size, 1, none⟩ = some (.slice Ea ma ka) := q.2.2.cell 1
  clear q
  have q := BQ.out.get (.head _)
  have qlc := q.2.1
  have qac : w4.cell? ⟨w3.heap.size, 0, none⟩ = some (.slice Dc lc cc) := q.2.2.cell 0
  have qbc : w4.cell? ⟨w3.heap.size, 1, none⟩ = some (.slice Ec mc kc) := q.2.2.cell 1
  clear q
  go_wp2_with fail
  refine (add_s Sa.out Sc.out (by omega)).mono ?_
  rintro e w5 ⟨⟨De, le, ce, Ee, me, ke, re, se, rfl, sx, rx, _, _⟩, hb⟩
  clear BQ
  have BQ := Lib.hid (BS4.out.on hb)
  have BS5 := Lib.hid (BQ.out.alloc TF #[.slice De le ce, .slice Ee me ke])
  replace S0 := Lib.hid ((S0.out.below hb).below ((Below.refl _ _).alloc (Nat.le_refl _) (.cells #[.slice De le ce, .slice Ee me ke] TF)))
  replace S1 := Lib.hid ((S1.out.below hb).below ((Below.refl _ _).alloc (Nat.le_refl _) (.cells #[.slice De le ce, .slice Ee me ke] TF)))
  replace S2 := Lib.hid ((S2.out.below hb).below ((Below.refl _ _).alloc (Nat.le_refl _) (.cells #[.slice De le ce, .slice Ee me ke] TF)))
  replace S3 := Lib.hid ((S3.out.below hb).below ((Below.refl _ _).alloc (Nat.le_refl _) (.cells #[.slice De le ce, .slice Ee me ke] TF)))
  replace Sa := Lib.hid ((Sa.out.below hb).below ((Below.refl _ _).alloc (Nat.le_refl _) (.cells #[.slice De le ce, .slice Ee me ke] TF)))
  replace Sb := Lib.hid ((Sb.out.below hb).below ((Below.refl _ _).alloc (Nat.le_refl _) (.cells #[.slice De le ce, .slice Ee me ke] TF)))
  replace Sc := Lib.hid ((Sc.out.below hb).below ((Below.refl _ _).alloc (Nat.le_refl _) (.cells #[.slice De le ce, .slice Ee me ke] TF)))
  replace Sd := Lib.hid ((Sd.out.below hb).below ((Below.refl _ _).alloc (Nat.le_refl _) (.cells #[.slice De le ce, .slice Ee me ke] TF)))
  have Se := Lib.hid (sx.below ((Below.refl _ _).alloc (Nat.le_refl _) (.cells #[.slice De le ce, .slice Ee me ke] TF)))
  have Re := Lib.hid rx
  clear hb sx rx BS4 qla qaa qba qlc qac qbc
  have q := BQ.out.get (.tail _ (.tail _ (.tail _ (.head _))))
  have qla := q.2.1
  have qaa : w5.cell? ⟨w1.heap.size, 0, none⟩ = some (.slice Da la ca) := q.2.2.cell 0
  have qba : w5.cell? ⟨w1.heap.size, 1, none⟩ = some (.slice Ea ma ka) := q.2.2.cell 1
  clear q
  have q := BQ.out.get (.tail _ (.tail _ (.tail _ (.tail _ (.tail _ (.head _))))))
  have ql2 := q.2.1
  have qa2 : w5.cell? ⟨W.heap.size + 1 + 1, 0, none⟩ = some (.slice D2 n2 c2) := q.2.2.cell 0
  have qb2 : w5.cell? ⟨W.heap.size + 1 + 1, 1, none⟩ = some (.slice E2 m2 d2) := q.2.2.cell 1
  clear q
  go_wp2_with fail
  refine (mul_s Sa.out S2.out (by omega)).mono ?_
  rintro e w6 ⟨⟨Df, lf, cf, Ef, mf, kf, rf, sf, rfl, sx, rx, _, _⟩, hb⟩
  clear BQ
  have BQ := Lib.hid (BS5.out.on hb)
  have BS6 := Lib.hid (BQ.out.alloc TF #[.slice Df lf cf, .slice Ef mf kf])
  replace S0 := Lib.hid ((S0.out.below hb).below ((Below.refl _ _).alloc (Nat.le_refl _) (.cells #[.slice Df lf cf, .slice Ef mf kf] TF)))
  replace S1 := Lib.hid ((S1.out.below hb).below ((Below.refl _ _).alloc (Nat.le_refl _) (.cells #[.slice Df lf cf, .slice Ef mf kf] TF)))
  replace S2 := Lib.hid ((S2.out.below hb).below ((Below.refl _ _).alloc (Nat.le_refl _) (.cells #[.slice Df lf cf, .slice Ef mf kf] TF)))
  replace S3 := Lib.hid ((S3.out.below hb).below ((Below.refl _ _).alloc (Nat.le_refl _) (.cells #[.slice Df lf cf, .slice Ef mf kf] TF)))
  replace Sa := Lib.hid ((Sa.out.below hb).below ((Below.refl _ _).alloc (Nat.le_refl _) (.cells #[.slice Df lf cf, .slice Ef mf kf] TF)))
  replace Sb := Lib.hid ((Sb.out.below hb).below ((Below.refl _ _).alloc (Nat.le_refl _) (.cells #[.slice Df lf cf, .slice Ef mf kf] TF)))
  replace Sc := Lib.hid ((Sc.out.below hb).below ((Below.refl _ _).alloc (Nat.le_refl _) (.cells #[.slice Df lf cf, .slice Ef mf kf] TF)))
  replace Sd := Lib.hid ((Sd.out.below hb).below ((Below.refl _ _).alloc (Nat.le_refl _) (.cells #[.slice Df lf cf, .slice Ef mf kf] TF)))
  replace Se := Lib.hid ((Se.out.below hb).below ((Below.refl _ _).alloc (Nat.le_refl _) (.cells #[.slice Df lf cf, .slice Ef mf kf] TF)))
  have Sf := Lib.hid (sx.below ((Below.refl _ _).alloc (Nat.le_refl _) (.cells #[.slice Df lf cf, .slice Ef mf kf] TF)))
  have Rf := Lib.hid rx
  clear hb sx rx BS5 qla qaa qba ql2 qa2 qb2
  have q := BQ.out.get (.tail _ (.tail _ (.tail _ (.tail _ (.tail _ (.tail _ (.tail _ (.head _))))))))
  have ql1 := q.2.1
  have qa1 : w6.cell? ⟨W.heap.size + 1, 0, none⟩ = some (.slice D1 n1 c1) := q.2.2.cell 0
  have qb1 : w6.cell? ⟨W.heap.size + 1, 1, none⟩ = some (.slice E1 m1 d1) := q.2.2.cell 1
  clear q
  have q := BQ.out.get (.tail _ (.tail _ (.tail _ (.tail _ (.tail _ (.tail _ (.head _)))))))
  have ql2 := q.2.1
  have qa2 : w6.cell? ⟨W.heap.size + 1 + 1, 0, none⟩ = some (.slice D2 n2 c2) := q.2.2.cell 0
  have qb2 : w6.cell? ⟨W.heap.size + 1 + 1, 1, none⟩ = some (.slice E2 m2 d2) := q.2.2.cell 1
  clear q
  go_wp2_with fail
  refine (mul_s S1.out S2.out (by omega)).mono ?_
  rintro e w7 ⟨⟨Dg, lg, cg, Eg, mg, kg, rg, sg, rfl, sx, rx, _, _⟩, hb⟩
  clear BQ
  have BQ := Lib.hid (BS6.out.on hb)
  have BS7 := Lib.hid (BQ.out.alloc TF #[.slice Dg lg cg, .slice Eg mg kg])
  replace S0 := Lib.hid ((S0.out.below hb).below ((Below.refl _ _).alloc (Nat.le_refl _) (.cells #[.slice Dg lg cg, .slice Eg mg kg] TF)))
  replace S1 := Lib.hid ((S1.out.below hb).below ((Below.refl _ _).alloc (Nat.le_refl _) (.cells #[.slice Dg lg cg, .slice Eg mg kg] TF)))
  replace S2 := Lib.hid ((S2.out.below hb).below ((Below.refl _ _).alloc (Nat.le_refl _) (.cells #[.slice Dg lg cg, .slice Eg mg kg] TF)))
  replace S3 := Lib.hid ((S3.out.below hb).below ((Below.refl _ _).alloc (Nat.le_refl _) (.cells #[.slice Dg lg cg, .slice Eg mg kg] TF)))
  replace Sa := Lib.hid ((Sa.out.below hb).below ((Below.refl _ _).alloc (Nat.le_refl _) (.cells #[.slice Dg lg cg, .slice Eg mg kg] TF)))
  replace Sb := Lib.hid ((Sb.out.below hb).below ((Below.refl _ _).alloc (Nat.le_refl _) (.cells #[.slice Dg lg cg, .slice Eg mg kg] TF)))
  replace Sc := Lib.hid ((Sc.out.below hb).below ((Below.refl _ _).alloc (Nat.le_refl _) (.cells #[.slice Dg lg cg, .slice Eg mg kg] TF)))
  replace Sd := Lib.hid ((Sd.out.below hb).below ((Below.refl _ _).alloc (Nat.le_refl _) (.cells #[.slice Dg lg cg, .slice Eg mg kg] TF)))
  replace Se := Lib.hid ((Se.out.below hb).below ((Below.refl _ _).alloc (Nat.le_refl _) (.cells #[.slice Dg lg cg, .slice Eg mg kg] TF)))
  replace Sf := Lib.hid ((Sf.out.below hb).below ((Below.refl _ _).alloc (Nat.le_refl _) (.cells #[.slice Dg lg cg, .slice Eg mg kg] TF)))
  have Sg := Lib.hid (sx.below ((Below.refl _ _).alloc (Nat.le_refl _) (.cells #[.slice Dg lg cg, .slice Eg mg kg] TF)))
  have Rg := Lib.hid rx
  clear hb sx rx BS6 ql1 qa1 qb1 ql2 qa2 qb2
  have q := BQ.out.get (.tail _ (.tail _ (.tail _ (.tail _ (.tail _ (.tail _ (.tail _ (.tail _ (.tail _ (.head _))))))))))
  have ql0 := q.2.1
  have qa0 : w7.cell? ⟨W.heap.size, 0, none⟩ = some (.slice D0 n0 c0) := q.2.2.cell 0
  have qb0 : w7.cell? ⟨W.heap.size, 1, none⟩ = some (.slice E0 m0 d0) := q.2.2.cell 1
  clear q
  go_wp2_with fail
  refine (mul_s S0.out Sg.out (by omega)).mono ?_
  rintro e w8 ⟨⟨Dh, lh, ch, Eh, mh, kh, rh, sh, rfl, sx, rx, _, _⟩, hb⟩
  clear BQ
  have BQ := Lib.hid (BS7.out.on hb)
  have BS8 := Lib.hid (BQ.out.alloc TF #[.slice Dh lh ch, .slice Eh mh kh])
  replace S0 := Lib.hid ((S0.out.below hb).below ((Below.refl _ _).alloc (Nat.le_refl _) (.cells #[.slice Dh lh ch, .slice Eh mh kh] TF)))
  replace S1 := Lib.hid ((S1.out.below hb).below ((Below.refl _ _).alloc (Nat.le_refl _) (.cells #[.slice Dh lh ch, .slice Eh mh kh] TF)))
  replace S2 := Lib.hid ((S2.out.below hb).below ((Below.refl _ _).alloc (Nat.le_refl _) (.cells #[.slice Dh lh ch, .slice Eh mh kh] TF)))
  replace S3 := Lib.hid ((S3.out.below hb).below ((Below.refl _ _).alloc (Nat.le_refl _) (.cells #[.slice Dh lh ch, .slice Eh mh kh] TF)))
  replace Sa := Lib.hid ((Sa.out.below hb).below ((Below.refl _ _).alloc (Nat.le_refl _) (.cells #[.slice Dh lh ch, .slice Eh mh kh] TF)))
  replace Sb := Lib.hid ((Sb.out.below hb).below ((Below.refl _ _).alloc (Nat.le_refl _) (.cells #[.slice Dh lh ch, .slice Eh mh kh] TF)))
  replace Sc := Lib.hid ((Sc.out.below hb).below ((Below.refl _ _).alloc (Nat.le_refl _) (.cells #[.slice Dh lh ch, .slice Eh mh kh] TF)))
  replace Sd := Lib.hid ((Sd.out.below hb).below ((Below.refl _ _).alloc (Nat.le_refl _) (.cells #[.slice Dh lh ch, .slice Eh mh kh] TF)))
  replace Se := Lib.hid ((Se.out.below hb).below ((Below.refl _ _).alloc (Nat.le_refl _) (.cells #[.slice Dh lh ch, .slice Eh mh kh] TF)))
  replace Sf := Lib.hid ((Sf.out.below hb).below ((Below.refl _ _).alloc (Nat.le_refl _) (.cells #[.slice Dh lh ch, .slice Eh mh kh] TF)))
  replace Sg := Lib.hid ((Sg.out.below hb).below ((Below.refl _ _).alloc (Nat.le_refl _) (.cells #[.slice Dh lh ch, .slice Eh mh kh] TF)))
  have Sh := Lib.hid (sx.below ((Below.refl _ _).alloc (Nat.le_refl _) (.cells #[.slice Dh lh ch, .slice Eh mh kh] TF)))
  have Rh := Lib.hid rx
  clear hb sx rx BS7 ql0 qa0 qb0
  go_wp2_with fail
  obtain ⟨wz, hwz⟩ : ∃ wz, wz = w8.alloc (.cells #[.slice Dh lh ch, .slice Eh mh kh] TF) := ⟨_, rfl⟩
  change Code.wp _ _ _ _ (w8.alloc (.cells #[.slice Dh lh ch, .slice Eh mh kh] TF))
  rw [← hwz] at BS8 S0 S1 S2 S3 Sa Sb Sc Sd Se Sf Sg Sh ⊢
  clear BQ hwz
  have HALL : Hid (∀ w', Below wz.heap.size wz w' → w'.cell? ⟨W.heap.size, 0, none⟩ = some (.slice D0 n0 c0) ∧ w'.cell? ⟨W.heap.size, 1, none⟩ = some (.slice E0 m0 d0) ∧ Below wz.heap.size wz w') := Lib.hid fun w' hw => by
    have q := ((BS8.out.on hw).get (.tail _ (.tail _ (.tail _ (.tail _ (.tail _ (.tail _ (.tail _ (.tail _ (.tail _ (.tail _ (.tail _ (.head _))))))))))))).2.2
    exact ⟨q.cell 0, q.cell 1, hw⟩
  have HOF : Hid (∀ w', Below wz.heap.size wz w' → Calls Try.prog 34 #[.int .u32 1, .int .u32 1] w' fun e w'' => ∃ D c E, e = .returned (.agg #[.slice D 1 c, .slice E 1 1]) ∧ FrS w'' D 1 E 1 1 1 1 ∧ Below w'.heap.size w' w'' ∧ Below wz.heap.size wz w'') := Lib.hid fun w' hw =>
    (sm_any w' (x := 1) (y := 1) (by omega) (by omega) (by omega) (by omega)).mono fun e w'' ⟨D, c, E, h1, h2, h3⟩ => ⟨D, c, E, h1, ⟨⟨by omega, by omega, (L32_one (by omega) (by omega)).symm, (L32_one (by omega) (by omega)).symm, h2.cx, h2.cy, by decide⟩, by unfold Fit32; decide, by unfold Fit32; decide⟩, h3, Below.on hw h3⟩
  have HMU : Hid (∀ w' D c E, FrS w' D 1 E 1 1 1 1 → Below wz.heap.size wz w' → Calls Try.prog 28 #[.agg #[.slice D0 n0 c0, .slice E0 m0 d0], .agg #[.slice D 1 c, .slice E 1 1]] w' fun e w'' => RS w'.heap.size w'' e 9 (x0 * 1) (y0 * 1) ∧ Below w'.heap.size w' w'' ∧ Below wz.heap.size wz w'') := Lib.hid fun w' D c E h hw =>
    (mul_s (S0.out.below hw) h (by omega)).mono fun e w'' ⟨h1, h2⟩ => ⟨h1, h2, Below.on hw h2⟩
  have A0 : Below wz.heap.size wz wz.drew := (Below.refl _ _).drew
  go_upto_region 11 with (fail)
  go_cut [25, 26] (fun s25 s26 wx => ∃ (b : Nat) (D : Option Addr) (l c : Nat) (E : Option Addr) (m c' r t : Nat), s25 = .pointer (some ⟨b, 0, none⟩) ∧ s26 = .int .i64 0 ∧ Hid (Blk wx b TF #[.slice D l c, .slice E m c']) ∧ Hid (FrS wx D l E m r t 9) ∧ Hid (Rep r t (x0 * 1) (y0 * 1)) ∧ Hid (Below wz.heap.size wz wx))
  case first =>
    go_region_held3 (fun w' => w'.cell? ⟨W.heap.size, 0, none⟩ = some (.slice D0 n0 c0) ∧ w'.cell? ⟨W.heap.size, 1, none⟩ = some (.slice E0 m0 d0) ∧ Below wz.heap.size wz w')
      ((refine HALL.out _ ?_; repeat' (first | exact (by assumption) | exact Below.refl _ _ | refine bl_alloc ?_ _ | refine bse ?_ (by first | omega | (simp; done) | (simp; omega)) _ _ | refine Below.drew ?_)))
      (first
        | (go_at_call 34; (with_reducible refine (HOF.out _ ?_).mono ?_); (first | assumption | exact bl_alloc (by assumption) _); rintro e5 w5 ⟨D5, c5, E5, rfl, h5, hb5, t5⟩; obtain ⟨bc5, bf5⟩ := bcell hb5; have s5 := t5.size)
        | (go_at_call 28; (with_reducible refine (HMU.out _ _ _ _ ?_ ?_).mono ?_); (first | exact h5 | exact h5.below (bl_alloc (Below.refl _ _) _)); (first | assumption | exact bl_alloc (by assumption) _); rintro e6 w6 ⟨⟨D6, l6, c6, E6, m6, k6, r6, s6, rfl, h6, g6, fx, fy⟩, hb6, t6⟩; obtain ⟨bc6, bf6⟩ := bcell hb6; have k56 : Below w5.heap.size w5 w6 := (by first | exact hb6 | exact bl_on (bl_alloc (Below.refl _ _) _) hb6); obtain ⟨bc56, bf56⟩ := bcell (bl_on hb5 k56); have s6' := t6.size)
        | fail)
    all_goals
      go_wp2_with fail
      go_meet
      case rel =>
        first
          | exact ⟨_, _, _, _, _, _, _, _, _, rfl, rfl, Lib.hid (Blk.new w6 _ _), Lib.hid (h6.below (bl_box _)), Lib.hid g6, Lib.hid (bl_alloc t6 _)⟩
          | exact ⟨_, _, _, _, _, _, _, _, _, rfl, rfl, Lib.hid ((((Blk.new w5 _ _).keep hb6).set_ 0 _).set_ 1 _), Lib.hid ((h6.set_ fx fy (by simp) 0 _).set_ fx fy (by simp) 1 _), Lib.hid g6, Lib.hid (bse (bse t6 s5 0 _) s5 1 _)⟩
          | exact ⟨_, _, _, _, _, _, _, _, _, rfl, rfl, Lib.hid (((((Blk.new wz.drew _ _).keep hb5).keep hb6).set_ 0 _).set_ 1 _), Lib.hid ((h6.set_ fx fy (by have h1 := hb5.size; simp at h1; omega) 0 _).set_ fx fy (by have h1 := hb5.size; simp at h1; omega) 1 _), Lib.hid g6, Lib.hid (bse (bse t6 (Nat.le_refl _) 0 _) (Nat.le_refl _) 1 _)⟩
  case rest =>
    obtain ⟨b, Di, li, ci, Ei, mi, ki, ri, si, rfl, rfl, KB, Si, Ri, BW⟩ := hcut
    have hc8 := BW.out
    clear BW
    have BQ := Lib.hid (BS8.out.on hc8)
    replace S0 := Lib.hid (S0.out.below hc8)
    replace S1 := Lib.hid (S1.out.below hc8)
    replace S2 := Lib.hid (S2.out.below hc8)
    replace S3 := Lib.hid (S3.out.below hc8)
    replace Sa := Lib.hid (Sa.out.below hc8)
    replace Sb := Lib.hid (Sb.out.below hc8)
    replace Sc := Lib.hid (Sc.out.below hc8)
    replace Sd := Lib.hid (Sd.out.below hc8)
    replace Se := Lib.hid (Se.out.below hc8)
    replace Sf := Lib.hid (Sf.out.below hc8)
    replace Sg := Lib.hid (Sg.out.below hc8)
    replace Sh := Lib.hid (Sh.out.below hc8)
    clear hc8 BS8 HALL HOF HMU A0
    have q := BQ.out.get (.tail _ (.tail _ (.tail _ (.tail _ (.tail _ (.tail _ (.tail _ (.head _))))))))
    have qla := q.2.1
    have qaa : wc.cell? ⟨w1.heap.size, 0, none⟩ = some (.slice Da la ca) := q.2.2.cell 0
    have qba : wc.cell? ⟨w1.heap.size, 1, none⟩ = some (.slice Ea ma ka) := q.2.2.cell 1
    clear q
    have q := BQ.out.get (.tail _ (.tail _ (.tail _ (.tail _ (.tail _ (.tail _ (.head _)))))))
    have qlb := q.2.1
    have qab : wc.cell? ⟨w2.heap.size, 0, none⟩ = some (.slice Db lb cb) := q.2.2.cell 0
    have qbb : wc.cell? ⟨w2.heap.size, 1, none⟩ = some (.slice Eb mb kb) := q.2.2.cell 1
    clear q
    go_wp2_with fail
    refine (same_s Sa.out Sb.out (p_comm Ra.out Rb.out Sa.out.num.ok Sb.out.num.ok)).mono ?_
    rintro e w19 ⟨rfl, hb⟩
    replace BQ := Lib.hid (BQ.out.on hb)
    replace KB := Lib.hid (KB.out.keep hb)
    replace S0 := Lib.hid (S0.out.below hb)
    replace S1 := Lib.hid (S1.out.below hb)
    replace S2 := Lib.hid (S2.out.below hb)
    replace S3 := Lib.hid (S3.out.below hb)
    replace Sa := Lib.hid (Sa.out.below hb)
    replace Sb := Lib.hid (Sb.out.below hb)
    replace Sc := Lib.hid (Sc.out.below hb)
    replace Sd := Lib.hid (Sd.out.below hb)
    replace Se := Lib.hid (Se.out.below hb)
    replace Sf := Lib.hid (Sf.out.below hb)
    replace Sg := Lib.hid (Sg.out.below hb)
    replace Sh := Lib.hid (Sh.out.below hb)
    replace Si := Lib.hid (Si.out.below hb)
    clear hb qla qaa qba qlb qab qbb
    have q := BQ.out.get (.tail _ (.tail _ (.tail _ (.tail _ (.head _)))))
    have qld := q.2.1
    have qad : w19.cell? ⟨w4.heap.size, 0, none⟩ = some (.slice Dd ld cd) := q.2.2.cell 0
    have qbd : w19.cell? ⟨w4.heap.size, 1, none⟩ = some (.slice Ed md kd) := q.2.2.cell 1
    clear q
    have q := BQ.out.get (.tail _ (.tail _ (.tail _ (.head _))))
    have qle := q.2.1
    have qae : w19.cell? ⟨w5.heap.size, 0, none⟩ = some (.slice De le ce) := q.2.2.cell 0
    have qbe : w19.cell? ⟨w5.heap.size, 1, none⟩ = some (.slice Ee me ke) := q.2.2.cell 1
    clear q
    go_wp2_with fail
    refine (same_s Sd.out Se.out (p_dist (fok_pos S0.out.num.ok) R3.out Ra.out Rc.out Rd.out Re.out Sd.out.num.ok Se.out.num.ok)).mono ?_
    rintro e w20 ⟨rfl, hb⟩
    replace BQ := Lib.hid (BQ.out.on hb)
    replace KB := Lib.hid (KB.out.keep hb)
    replace S0 := Lib.hid (S0.out.below hb)
    replace S1 := Lib.hid (S1.out.below hb)
    replace S2 := Lib.hid (S2.out.below hb)
    replace S3 := Lib.hid (S3.out.below hb)
    replace Sa := Lib.hid (Sa.out.below hb)
    replace Sb := Lib.hid (Sb.out.below hb)
    replace Sc := Lib.hid (Sc.out.below hb)
    replace Sd := Lib.hid (Sd.out.below hb)
    replace Se := Lib.hid (Se.out.below hb)
    replace Sf := Lib.hid (Sf.out.below hb)
    replace Sg := Lib.hid (Sg.out.below hb)
    replace Sh := Lib.hid (Sh.out.below hb)
    replace Si := Lib.hid (Si.out.below hb)
    clear hb qld qad qbd qle qae qbe
    have q := BQ.out.get (.tail _ (.tail _ (.head _)))
    have qlf := q.2.1
    have qaf : w20.cell? ⟨w6.heap.size, 0, none⟩ = some (.slice Df lf cf) := q.2.2.cell 0
    have qbf : w20.cell? ⟨w6.heap.size, 1, none⟩ = some (.slice Ef mf kf) := q.2.2.cell 1
    clear q
    have q := BQ.out.get (.head _)
    have qlh := q.2.1
    have qah : w20.cell? ⟨w8.heap.size, 0, none⟩ = some (.slice Dh lh ch) := q.2.2.cell 0
    have qbh : w20.cell? ⟨w8.heap.size, 1, none⟩ = some (.slice Eh mh kh) := q.2.2.cell 1
    clear q
    go_wp2_with fail
    refine (same_s Sf.out Sh.out (p_assoc (fok_pos S0.out.num.ok) (fok_pos S2.out.num.ok) Ra.out Rf.out Rg.out Rh.out Sf.out.num.ok Sh.out.num.ok)).mono ?_
    rintro e w21 ⟨rfl, hb⟩
    replace BQ := Lib.hid (BQ.out.on hb)
    replace KB := Lib.hid (KB.out.keep hb)
    replace S0 := Lib.hid (S0.out.below hb)
    replace S1 := Lib.hid (S1.out.below hb)
    replace S2 := Lib.hid (S2.out.below hb)
    replace S3 := Lib.hid (S3.out.below hb)
    replace Sa := Lib.hid (Sa.out.below hb)
    replace Sb := Lib.hid (Sb.out.below hb)
    replace Sc := Lib.hid (Sc.out.below hb)
    replace Sd := Lib.hid (Sd.out.below hb)
    replace Se := Lib.hid (Se.out.below hb)
    replace Sf := Lib.hid (Sf.out.below hb)
    replace Sg := Lib.hid (Sg.out.below hb)
    replace Sh := Lib.hid (Sh.out.below hb)
    replace Si := Lib.hid (Si.out.below hb)
    clear hb qlf qaf qbf qlh qah qbh
    have qli := KB.out.lt
    have qai : w21.cell? ⟨b, 0, none⟩ = some (.slice Di li ci) := KB.out.cell 0
    have qbi : w21.cell? ⟨b, 1, none⟩ = some (.slice Ei mi ki) := KB.out.cell 1
    have q := BQ.out.get (.tail _ (.tail _ (.tail _ (.tail _ (.tail _ (.tail _ (.tail _ (.tail _ (.tail _ (.tail _ (.tail _ (.head _))))))))))))
    have ql0 := q.2.1
    have qa0 : w21.cell? ⟨W.heap.size, 0, none⟩ = some (.slice D0 n0 c0) := q.2.2.cell 0
    have qb0 : w21.cell? ⟨W.heap.size, 1, none⟩ = some (.slice E0 m0 d0) := q.2.2.cell 1
    clear q
    go_wp2_with fail
    refine (same_s Si.out S0.out (p_one S0.out.num.ok Ri.out Si.out.num.ok)).mono ?_
    rintro e w22 ⟨rfl, hb⟩
    replace BQ := Lib.hid (BQ.out.on hb)
    replace KB := Lib.hid (KB.out.keep hb)
    replace S0 := Lib.hid (S0.out.below hb)
    replace S1 := Lib.hid (S1.out.below hb)
    replace S2 := Lib.hid (S2.out.below hb)
    replace S3 := Lib.hid (S3.out.below hb)
    replace Sa := Lib.hid (Sa.out.below hb)
    replace Sb := Lib.hid (Sb.out.below hb)
    replace Sc := Lib.hid (Sc.out.below hb)
    replace Sd := Lib.hid (Sd.out.below hb)
    replace Se := Lib.hid (Se.out.below hb)
    replace Sf := Lib.hid (Sf.out.below hb)
    replace Sg := Lib.hid (Sg.out.below hb)
    replace Sh := Lib.hid (Sh.out.below hb)
    replace Si := Lib.hid (Si.out.below hb)
    clear hb qli qai qbi ql0 qa0 qb0
    have q := BQ.out.get (.tail _ (.tail _ (.tail _ (.tail _ (.tail _ (.tail _ (.tail _ (.head _))))))))
    have qla := q.2.1
    have qaa : w22.cell? ⟨w1.heap.size, 0, none⟩ = some (.slice Da la ca) := q.2.2.cell 0
    have qba : w22.cell? ⟨w1.heap.size, 1, none⟩ = some (.slice Ea ma ka) := q.2.2.cell 1
    clear q
    have q := BQ.out.get (.tail _ (.tail _ (.tail _ (.tail _ (.tail _ (.tail _ (.tail _ (.tail _ (.tail _ (.tail _ (.head _)))))))))))
    have ql1 := q.2.1
    have qa1 : w22.cell? ⟨W.heap.size + 1, 0, none⟩ = some (.slice D1 n1 c1) := q.2.2.cell 0
    have qb1 : w22.cell? ⟨W.heap.size + 1, 1, none⟩ = some (.slice E1 m1 d1) := q.2.2.cell 1
    clear q
    go_wp2_with fail
    rcases Nat.eq_zero_or_pos x1 with hx1 | hx1
    · have hn : n1 = 0 := by rw [S1.out.num.nx, hx1]; exact L32_zero.2 rfl
      refine (div_zero Sa.out.num.n64 Sa.out.num.m64 S1.out.num.n64 S1.out.num.m64 Sa.out.num.nx Sa.out.num.my S1.out.num.nx S1.out.num.my Sa.out.num.cx Sa.out.num.cy S1.out.num.cx S1.out.num.cy Sa.out.num.ok S1.out.num.ok hx1).mono ?_
      rintro e w20 ⟨he, hb⟩
      unfold Err fv at he
      subst he hn
      have HB := Lib.hid (bl_alloc (BQ.out.on hb).below (.cells #[.slice none 0 0, .slice none 0 0] TF))
      replace BQ := Lib.hid (BQ.out.on hb)
      clear hx1 KB Ri qla qaa qba ql1 qa1 qb1
      have q := BQ.out.get (.tail _ (.tail _ (.tail _ (.tail _ (.tail _ (.tail _ (.tail _ (.tail _ (.tail _ (.tail _ (.head _)))))))))))
      have ql1 := q.2.1
      have qa1 : w20.cell? ⟨W.heap.size + 1, 0, none⟩ = some (.slice D1 0 c1) := q.2.2.cell 0
      clear q
      clear BQ
      go_wp2
      go_ret
      exact ⟨rfl, HB.out⟩
    · have hn : 0 < n1 := by rw [S1.out.num.nx]; exact Nat.pos_of_ne_zero (fun e => by have := L32_zero.1 e; omega)
      refine (div_s Sa.out S1.out (by omega) hx1).mono ?_
      rintro e w20 ⟨⟨Dj, lj, cj, Ej, mj, kj, rj, sj, rfl, sx, rx, _, _⟩, hb⟩
      replace BQ := Lib.hid (BQ.out.on hb)
      have hs := p_back S0.out.num.ok hx1 Ra.out rx sx.num.ok
      replace S0 := Lib.hid ((S0.out.below hb).below (bl_box (.cells #[.slice Dj lj cj, .slice Ej mj kj] TF)))
      have Sj := Lib.hid (sx.below (bl_box (.cells #[.slice Dj lj cj, .slice Ej mj kj] TF)))
      have HS := Lib.hid hs
      clear sx rx hs hx1 qla qaa qba ql1 qa1 qb1
      have q := BQ.out.get (.tail _ (.tail _ (.tail _ (.tail _ (.tail _ (.tail _ (.tail _ (.tail _ (.tail _ (.tail _ (.head _)))))))))))
      have ql1 := q.2.1
      have qa1 : w20.cell? ⟨W.heap.size + 1, 0, none⟩ = some (.slice D1 n1 c1) := q.2.2.cell 0
      clear q
      have q := BQ.out.get (.tail _ (.tail _ (.tail _ (.tail _ (.tail _ (.tail _ (.tail _ (.tail _ (.tail _ (.tail _ (.tail _ (.head _))))))))))))
      have ql0 := q.2.1
      have qa0 : w20.cell? ⟨W.heap.size, 0, none⟩ = some (.slice D0 n0 c0) := q.2.2.cell 0
      have qb0 : w20.cell? ⟨W.heap.size, 1, none⟩ = some (.slice E0 m0 d0) := q.2.2.cell 1
      clear q
      go_wp2_with fail
      refine (same_s Sj.out S0.out HS.out).mono ?_
      rintro e w21 ⟨rfl, hb2⟩
      have HB := Lib.hid (Below.on (bl_alloc BQ.out.below (.cells #[.slice Dj lj cj, .slice Ej mj kj] TF)) hb2)
      clear BQ hb2
      go_wp2
      go_ret
      exact ⟨rfl, HB.out⟩
section
variable {x0 y0 x1 y1 x2 y2 ra sa rb sb rc sc rd sd re se rf sf ri si : Nat}
theorem q_comm (a : Rep ra sa (x0 * y1 + x1 * y0) (y0 * y1)) (b : Rep rb sb (x1 * y0 + x0 * y1) (y1 * y0)) (h : fok ra sa = true) (k : fok rb sb = true) : ra = rb ∧ sa = sb :=
  a.same b h k (by grind)
theorem q_assoc (k0 : 0 < y0) (k2 : 0 < y2) (a : Rep ra sa (x0 * y1 + x1 * y0) (y0 * y1)) (c : Rep rc sc (x1 * y2 + x2 * y1) (y1 * y2)) (d : Rep rd sd (ra * y2 + x2 * sa) (sa * y2)) (e : Rep re se (x0 * sc + rc * y0) (y0 * sc)) (h : fok rd sd = true) (k : fok re se = true) : rd = re ∧ sd = se := by
  refine (a.add (Rep.self k2) d).same ((Rep.self k0).add c e) h k ?_
  grind
theorem q_le (k0 : 0 < y0) (a : Rep ra sa (x0 * y1 + x1 * y0) (y0 * y1)) : x1 * sa ≤ ra * y1 := by
  refine Nat.le_of_mul_le_mul_right ?_ k0
  have h := a.eq
  have e : ra * y1 * y0 = x0 * y1 * sa + x1 * sa * y0 := by grind
  rw [e]
  exact Nat.le_add_left _ _
theorem q_back (k0 : fok x0 y0 = true) (k1 : 0 < y1) (a : Rep ra sa (x0 * y1 + x1 * y0) (y0 * y1)) (f : Rep rf sf (ra * y1 - x1 * sa) (sa * y1)) (h : fok rf sf = true) : rf = x0 ∧ sf = y0 := by
  refine (Rep.sub a (q_le (fok_pos k0) a) k1 (fok_pos k0) f).same (Rep.self (fok_pos k0)) h k0 ?_
  grind
theorem q_zero (k0 : fok x0 y0 = true) (a : Rep ri si (x0 * 1 + 0 * y0) (y0 * 1)) (h : fok ri si = true) : ri = x0 ∧ si = y0 :=
  a.same (Rep.self (fok_pos k0)) h k0 (by grind)
end
set_option maxHeartbeats 8000000 in
set_option maxRecDepth 100000 in
theorem gate_FracField {W : World} {D0 E0 D1 E1 D2 E2 : Option Addr} {n0 m0 n1 m1 n2 m2 c0 d0 c1 d1 c2 d2 : Nat} {f0 g0 f1 g1 f2 g2 : Nat → Nat} (a0 : FrArg W D0 n0 c0 f0 E0 m0 d0 g0) (a1 : FrArg W D1 n1 c1 f1 E1 m1 d1 g1) (a2 : FrArg W D2 n2 c2 f2 E2 m2 d2 g2) {b0 b1 b2 v0 v1 v2 : Bool} (hb0 : (decide (n0 ≤ 8) && decide (m0 ≤ 8)) = b0) (hb1 : (decide (n1 ≤ 8) && decide (m1 ≤ 8)) = b1) (hb2 : (decide (n2 ≤ 8) && decide (m2 ≤ 8)) = b2) (hv0 : fvd n0 f0 m0 g0 = v0) (hv1 : fvd n1 f1 m1 g1 = v1) (hv2 : fvd n2 f2 m2 g2 = v2)
    (h : (b0 && b1 && b2 && v0 && v1 && v2) = false) :
    Calls Try.prog 9 #[fv D0 n0 c0 E0 m0 d0, fv D1 n1 c1 E1 m1 d1, fv D2 n2 c2 E2 m2 d2] W fun e w' => e = .returned (.bool true) ∧ Below W.heap.size W w' := by
  have BS0 := Lib.hid (boxes3F W (.slice D0 n0 c0) (.slice E0 m0 d0) (.slice D1 n1 c1) (.slice E1 m1 d1) (.slice D2 n2 c2) (.slice E2 m2 d2))
  have KB0 := fun w' => brief_any w' (D := D0) (E := E0) (n := n0) (m := m0) (c := c0) (c' := d0) (k := 8) (by have := a0.nc; have := a0.cm; unfold maxLen at *; omega) (by have := a0.mc; have := a0.cm'; unfold maxLen at *; omega)
  rw [hb0] at KB0
  have KB1 := fun w' => brief_any w' (D := D1) (E := E1) (n := n1) (m := m1) (c := c1) (c' := d1) (k := 8) (by have := a1.nc; have := a1.cm; unfold maxLen at *; omega) (by have := a1.mc; have := a1.cm'; unfold maxLen at *; omega)
  rw [hb1] at KB1
  have KB2 := fun w' => brief_any w' (D := D2) (E := E2) (n := n2) (m := m2) (c := c2) (c' := d2) (k := 8) (by have := a2.nc; have := a2.cm; unfold maxLen at *; omega) (by have := a2.mc; have := a2.cm'; unfold maxLen at *; omega)
  rw [hb2] at KB2
  have KV0 := fun (w' : World) (hw : Below W.heap.size W w') => valid_arg a0 hw
  rw [hv0] at KV0
  have KV1 := fun (w' : World) (hw : Below W.heap.size W w') => valid_arg a1 hw
  rw [hv1] at KV1
  have KV2 := fun (w' : World) (hw : Below W.heap.size W w') => valid_arg a2 hw
  rw [hv2] at KV2
  unfold fv at KB0 KB1 KB2 KV0 KV1 KV2 ⊢
  have B0 := Lib.hid KB0
  have V0 := Lib.hid KV0
  have B1 := Lib.hid KB1
  have V1 := Lib.hid KV1
  have B2 := Lib.hid KB2
  have V2 := Lib.hid KV2
  clear KB0 KB1 KB2 KV0 KV1 KV2 hb0 hb1 hb2 hv0 hv1 hv2 a0 a1 a2
  cases b0 with
  | false =>
    clear h
    go_enter Try.func9, Try.ntmps9
    go_wp2_with fail
    refine (B0.out _).mono ?_
    rintro e w1 ⟨rfl, hb⟩
    have BS1 := Lib.hid (BS0.out.on hb)
    clear hb
    go_wp2_with fail
    refine (awake_any _).mono ?_
    rintro e w9 ⟨rfl, hb⟩
    have HB := Lib.hid (BS1.out.on hb).below
    clear hb
    go_wp2
    go_ret
    exact ⟨rfl, HB.out⟩
  | true =>
    cases b1 with
    | false =>
      clear h
      go_enter Try.func9, Try.ntmps9
      go_wp2_with fail
      refine (B0.out _).mono ?_
      rintro e w1 ⟨rfl, hb⟩
      have BS1 := Lib.hid (BS0.out.on hb)
      clear hb
      have q := (BS1.out.get (.tail _ (.head _)))
      have ql := q.2.1
      have q0 : w1.cell? ⟨W.heap.size + 1, 0, none⟩ = some (.slice D1 n1 c1) := q.2.2.cell 0
      have q1 : w1.cell? ⟨W.heap.size + 1, 1, none⟩ = some (.slice E1 m1 d1) := q.2.2.cell 1
      clear q
      go_wp2_with fail
      refine (B1.out _).mono ?_
      rintro e w2 ⟨rfl, hb⟩
      have BS2 := Lib.hid (BS1.out.on hb)
      clear hb q0 q1 ql
      go_wp2_with fail
      refine (awake_any _).mono ?_
      rintro e w9 ⟨rfl, hb⟩
      have HB := Lib.hid (BS2.out.on hb).below
      clear hb
      go_wp2
      go_ret
      exact ⟨rfl, HB.out⟩
    | true =>
      cases b2 with
      | false =>
        clear h
        go_enter Try.func9, Try.ntmps9
        go_wp2_with fail
        refine (B0.out _).mono ?_
        rintro e w1 ⟨rfl, hb⟩
        have BS1 := Lib.hid (BS0.out.on hb)
        clear hb
        have q := (BS1.out.get (.tail _ (.head _)))
        have ql := q.2.1
        have q0 : w1.cell? ⟨W.heap.size + 1, 0, none⟩ = some (.slice D1 n1 c1) := q.2.2.cell 0
        have q1 : w1.cell? ⟨W.heap.size + 1, 1, none⟩ = some (.slice E1 m1 d1) := q.2.2.cell 1
        clear q
        go_wp2_with fail
        refine (B1.out _).mono ?_
        rintro e w2 ⟨rfl, hb⟩
        have BS2 := Lib.hid (BS1.out.on hb)
        clear hb q0 q1 ql
        have q := (BS2.out.get (.head _))
        have ql := q.2.1
        have q0 : w2.cell? ⟨W.heap.size + 1 + 1, 0, none⟩ = some (.slice D2 n2 c2) := q.2.2.cell 0
        have q1 : w2.cell? ⟨W.heap.size + 1 + 1, 1, none⟩ = some (.slice E2 m2 d2) := q.2.2.cell 1
        clear q
        go_wp2_with fail
        refine (B2.out _).mono ?_
        rintro e w3 ⟨rfl, hb⟩
        have BS3 := Lib.hid (BS2.out.on hb)
        clear hb q0 q1 ql
        go_wp2_with fail
        refine (awake_any _).mono ?_
        rintro e w9 ⟨rfl, hb⟩
        have HB := Lib.hid (BS3.out.on hb).below
        clear hb
        go_wp2
        go_ret
        exact ⟨rfl, HB.out⟩
      | true =>
        cases v0 with
        | false =>
          clear h
          go_enter Try.func9, Try.ntmps9
          go_wp2_with fail
          refine (B0.out _).mono ?_
          rintro e w1 ⟨rfl, hb⟩
          have BS1 := Lib.hid (BS0.out.on hb)
          clear hb
          have q := (BS1.out.get (.tail _ (.head _)))
          have ql := q.2.1
          have q0 : w1.cell? ⟨W.heap.size + 1, 0, none⟩ = some (.slice D1 n1 c1) := q.2.2.cell 0
          have q1 : w1.cell? ⟨W.heap.size + 1, 1, none⟩ = some (.slice E1 m1 d1) := q.2.2.cell 1
          clear q
          go_wp2_with fail
          refine (B1.out _).mono ?_
          rintro e w2 ⟨rfl, hb⟩
          have BS2 := Lib.hid (BS1.out.on hb)
          clear hb q0 q1 ql
          have q := (BS2.out.get (.head _))
          have ql := q.2.1
          have q0 : w2.cell? ⟨W.heap.size + 1 + 1, 0, none⟩ = some (.slice D2 n2 c2) := q.2.2.cell 0
          have q1 : w2.cell? ⟨W.heap.size + 1 + 1, 1, none⟩ = some (.slice E2 m2 d2) := q.2.2.cell 1
          clear q
          go_wp2_with fail
          refine (B2.out _).mono ?_
          rintro e w3 ⟨rfl, hb⟩
          have BS3 := Lib.hid (BS2.out.on hb)
          clear hb q0 q1 ql
          have q := (BS3.out.get (.tail _ (.tail _ (.head _))))
          have ql := q.2.1
          have q0 : w3.cell? ⟨W.heap.size, 0, none⟩ = some (.slice D0 n0 c0) := q.2.2.cell 0
          have q1 : w3.cell? ⟨W.heap.size, 1, none⟩ = some (.slice E0 m0 d0) := q.2.2.cell 1
          clear q
          go_wp2_with fail
          refine (V0.out _ BS3.out.below).mono ?_
          rintro e w4 ⟨rfl, hb⟩
          have BS4 := Lib.hid (BS3.out.on hb)
          clear hb q0 q1 ql
          go_wp2_with fail
          refine (awake_any _).mono ?_
          rintro e w9 ⟨rfl, hb⟩
          have HB := Lib.hid (BS4.out.on hb).below
          clear hb
          go_wp2
          go_ret
          exact ⟨rfl, HB.out⟩
        | true =>
          cases v1 with
          | false =>
            clear h
            go_enter Try.func9, Try.ntmps9
            go_wp2_with fail
            refine (B0.out _).mono ?_
            rintro e w1 ⟨rfl, hb⟩
            have BS1 := Lib.hid (BS0.out.on hb)
            clear hb
            have q := (BS1.out.get (.tail _ (.head _)))
            have ql := q.2.1
            have q0 : w1.cell? ⟨W.heap.size + 1, 0, none⟩ = some (.slice D1 n1 c1) := q.2.2.cell 0
            have q1 : w1.cell? ⟨W.heap.size + 1, 1, none⟩ = some (.slice E1 m1 d1) := q.2.2.cell 1
            clear q
            go_wp2_with fail
            refine (B1.out _).mono ?_
            rintro e w2 ⟨rfl, hb⟩
            have BS2 := Lib.hid (BS1.out.on hb)
            clear hb q0 q1 ql
            have q := (BS2.out.get (.head _))
            have ql := q.2.1
            have q0 : w2.cell? ⟨W.heap.size + 1 + 1, 0, none⟩ = some (.slice D2 n2 c2) := q.2.2.cell 0
            have q1 : w2.cell? ⟨W.heap.size + 1 + 1, 1, none⟩ = some (.slice E2 m2 d2) := q.2.2.cell 1
            clear q
            go_wp2_with fail
            refine (B2.out _).mono ?_
            rintro e w3 ⟨rfl, hb⟩
            have BS3 := Lib.hid (BS2.out.on hb)
            clear hb q0 q1 ql
            have q := (BS3.out.get (.tail _ (.tail _ (.head _))))
            have ql := q.2.1
            have q0 : w3.cell? ⟨W.heap.size, 0, none⟩ = some (.slice D0 n0 c0) := q.2.2.cell 0
            have q1 : w3.cell? ⟨W.heap.size, 1, none⟩ = some (.slice E0 m0 d0) := q.2.2.cell 1
            clear q
            go_wp2_with fail
            refine (V0.out _ BS3.out.below).mono ?_
            rintro e w4 ⟨rfl, hb⟩
            have BS4 := Lib.hid (BS3.out.on hb)
            clear hb q0 q1 ql
            have q := (BS4.out.get (.tail _ (.head _)))
            have ql := q.2.1
            have q0 : w4.cell? ⟨W.heap.size + 1, 0, none⟩ = some (.slice D1 n1 c1) := q.2.2.cell 0
            have q1 : w4.cell? ⟨W.heap.size + 1, 1, none⟩ = some (.slice E1 m1 d1) := q.2.2.cell 1
            clear q
            go_wp2_with fail
            refine (V1.out _ BS4.out.below).mono ?_
            rintro e w5 ⟨rfl, hb⟩
            have BS5 := Lib.hid (BS4.out.on hb)
            clear hb q0 q1 ql
            go_wp2_with fail
            refine (awake_any _).mono ?_
            rintro e w9 ⟨rfl, hb⟩
            have HB := Lib.hid (BS5.out.on hb).below
            clear hb
            go_wp2
            go_ret
            exact ⟨rfl, HB.out⟩
          | true =>
            cases v2 with
            | false =>
              clear h
              go_enter Try.func9, Try.ntmps9
              go_wp2_with fail
              refine (B0.out _).mono ?_
              rintro e w1 ⟨rfl, hb⟩
              have BS1 := Lib.hid (BS0.out.on hb)
              clear hb
              have q := (BS1.out.get (.tail _ (.head _)))
              have ql := q.2.1
              have q0 : w1.cell? ⟨W.heap.size + 1, 0, none⟩ = some (.slice D1 n1 c1) := q.2.2.cell 0
              have q1 : w1.cell? ⟨W.heap.size + 1, 1, none⟩ = some (.slice E1 m1 d1) := q.2.2.cell 1
              clear q
              go_wp2_with fail
              refine (B1.out _).mono ?_
              rintro e w2 ⟨rfl, hb⟩
              have BS2 := Lib.hid (BS1.out.on hb)
              clear hb q0 q1 ql
              have q := (BS2.out.get (.head _))
              have ql := q.2.1
              have q0 : w2.cell? ⟨W.heap.size + 1 + 1, 0, none⟩ = some (.slice D2 n2 c2) := q.2.2.cell 0
              have q1 : w2.cell? ⟨W.heap.size + 1 + 1, 1, none⟩ = some (.slice E2 m2 d2) := q.2.2.cell 1
              clear q
              go_wp2_with fail
              refine (B2.out _).mono ?_
              rintro e w3 ⟨rfl, hb⟩
              have BS3 := Lib.hid (BS2.out.on hb)
              clear hb q0 q1 ql
              have q := (BS3.out.get (.tail _ (.tail _ (.head _))))
              have ql := q.2.1
              have q0 : w3.cell? ⟨W.heap.size, 0, none⟩ = some (.slice D0 n0 c0) := q.2.2.cell 0
              have q1 : w3.cell? ⟨W.heap.size, 1, none⟩ = some (.slice E0 m0 d0) := q.2.2.cell 1
              clear q
              go_wp2_with fail
              refine (V0.out _ BS3.out.below).mono ?_
              rintro e w4 ⟨rfl, hb⟩
              have BS4 := Lib.hid (BS3.out.on hb)
              clear hb q0 q1 ql
              have q := (BS4.out.get (.tail _ (.head _)))
              have ql := q.2.1
              have q0 : w4.cell? ⟨W.heap.size + 1, 0, none⟩ = some (.slice D1 n1 c1) := q.2.2.cell 0
              have q1 : w4.cell? ⟨W.heap.size + 1, 1, none⟩ = some (.slice E1 m1 d1) := q.2.2.cell 1
              clear q
              go_wp2_with fail
              refine (V1.out _ BS4.out.below).mono ?_
              rintro e w5 ⟨rfl, hb⟩
              have BS5 := Lib.hid (BS4.out.on hb)
              clear hb q0 q1 ql
              have q := (BS5.out.get (.head _))
              have ql := q.2.1
              have q0 : w5.cell? ⟨W.heap.size + 1 + 1, 0, none⟩ = some (.slice D2 n2 c2) := q.2.2.cell 0
              have q1 : w5.cell? ⟨W.heap.size + 1 + 1, 1, none⟩ = some (.slice E2 m2 d2) := q.2.2.cell 1
              clear q
              go_wp2_with fail
              refine (V2.out _ BS5.out.below).mono ?_
              rintro e w6 ⟨rfl, hb⟩
              have BS6 := Lib.hid (BS5.out.on hb)
              clear hb q0 q1 ql
              go_wp2_with fail
              refine (awake_any _).mono ?_
              rintro e w9 ⟨rfl, hb⟩
              have HB := Lib.hid (BS6.out.on hb).below
              clear hb
              go_wp2
              go_ret
              exact ⟨rfl, HB.out⟩
            | true =>
              simp at h
set_option maxHeartbeats 8000000 in
set_option maxRecDepth 100000 in
theorem field_in {W : World} {D0 E0 D1 E1 D2 E2 : Option Addr} {n0 m0 n1 m1 n2 m2 c0 d0 c1 d1 c2 d2 x0 y0 x1 y1 x2 y2 : Nat} (A0 : FrNum W D0 n0 E0 m0 x0 y0) (A1 : FrNum W D1 n1 E1 m1 x1 y1) (A2 : FrNum W D2 n2 E2 m2 x2 y2)
    (h0 : n0 ≤ 8) (k0 : m0 ≤ 8) (h1 : n1 ≤ 8) (k1 : m1 ≤ 8) (h2 : n2 ≤ 8) (k2 : m2 ≤ 8) :
    Calls Try.prog 9 #[fv D0 n0 c0 E0 m0 d0, fv D1 n1 c1 E1 m1 d1, fv D2 n2 c2 E2 m2 d2] W fun e w' => e = .returned (.bool true) ∧ Below W.heap.size W w' := by
  have BS0 := Lib.hid (boxes3F W (.slice D0 n0 c0) (.slice E0 m0 d0) (.slice D1 n1 c1) (.slice E1 m1 d1) (.slice D2 n2 c2) (.slice E2 m2 d2))
  have KB0 := fun w' => brief_any w' (D := D0) (E := E0) (n := n0) (m := m0) (c := c0) (c' := d0) (k := 8) (by omega) (by omega)
  rw [show (decide (n0 ≤ 8) && decide (m0 ≤ 8)) = true by simp; omega] at KB0
  have KV0 := fun (w' : World) (hw : Below W.heap.size W w') => valid_any (c := c0) (c' := d0) A0.n64 A0.m64 A0.nx A0.my (A0.cx.below hw) (A0.cy.below hw)
  rw [A0.ok] at KV0
  have S0 := Lib.hid (A0.s8 h0 k0)
  have KB1 := fun w' => brief_any w' (D := D1) (E := E1) (n := n1) (m := m1) (c := c1) (c' := d1) (k := 8) (by omega) (by omega)
  rw [show (decide (n1 ≤ 8) && decide (m1 ≤ 8)) = true by simp; omega] at KB1
  have KV1 := fun (w' : World) (hw : Below W.heap.size W w') => valid_any (c := c1) (c' := d1) A1.n64 A1.m64 A1.nx A1.my (A1.cx.below hw) (A1.cy.below hw)
  rw [A1.ok] at KV1
  have S1 := Lib.hid (A1.s8 h1 k1)
  have KB2 := fun w' => brief_any w' (D := D2) (E := E2) (n := n2) (m := m2) (c := c2) (c' := d2) (k := 8) (by omega) (by omega)
  rw [show (decide (n2 ≤ 8) && decide (m2 ≤ 8)) = true by simp; omega] at KB2
  have KV2 := fun (w' : World) (hw : Below W.heap.size W w') => valid_any (c := c2) (c' := d2) A2.n64 A2.m64 A2.nx A2.my (A2.cx.below hw) (A2.cy.below hw)
  rw [A2.ok] at KV2
  have S2 := Lib.hid (A2.s8 h2 k2)
  unfold fv at KB0 KB1 KB2 KV0 KV1 KV2 ⊢
  have B0 := Lib.hid KB0
  have B1 := Lib.hid KB1
  have B2 := Lib.hid KB2
  have V0 := Lib.hid KV0
  have V1 := Lib.hid KV1
  have V2 := Lib.hid KV2
  clear KB0 KB1 KB2 KV0 KV1 KV2 A0 A1 A2 h0 k0 h1 k1 h2 k2
  go_enter Try.func9, Try.ntmps9
  go_wp2_with fail
  refine (B0.out _).mono ?_
  rintro e w1 ⟨rfl, hb⟩
  have BS1 := Lib.hid (BS0.out.on hb)
  clear hb BS0 
  have q := BS1.out.get (.tail _ (.head _))
  have ql1 := q.2.1
  have qa1 : w1.cell? ⟨W.heap.size + 1, 0, none⟩ = some (.slice D1 n1 c1) := q.2.2.cell 0
  have qb1 : w1.cell? ⟨W.heap.size + 1, 1, none⟩ = some (.slice E1 m1 d1) := q.2.2.cell 1
  clear q
  go_wp2_with fail
  refine (B1.out _).mono ?_
  rintro e w2 ⟨rfl, hb⟩
  have BS2 := Lib.hid (BS1.out.on hb)
  clear hb BS1 ql1 qa1 qb1
  have q := BS2.out.get (.head _)
  have ql2 := q.2.1
  have qa2 : w2.cell? ⟨W.heap.size + 1 + 1, 0, none⟩ = some (.slice D2 n2 c2) := q.2.2.cell 0
  have qb2 : w2.cell? ⟨W.heap.size + 1 + 1, 1, none⟩ = some (.slice E2 m2 d2) := q.2.2.cell 1
  clear q
  go_wp2_with fail
  refine (B2.out _).mono ?_
  rintro e w3 ⟨rfl, hb⟩
  have BS3 := Lib.hid (BS2.out.on hb)
  clear hb BS2 ql2 qa2 qb2
  have q := BS3.out.get (.tail _ (.tail _ (.head _)))
  have ql0 := q.2.1
  have qa0 : w3.cell? ⟨W.heap.size, 0, none⟩ = some (.slice D0 n0 c0) := q.2.2.cell 0
  have qb0 : w3.cell? ⟨W.heap.size, 1, none⟩ = some (.slice E0 m0 d0) := q.2.2.cell 1
  clear q
  go_wp2_with fail
  refine (V0.out _ BS3.out.below).mono ?_
  rintro e w4 ⟨rfl, hb⟩
  have BS4 := Lib.hid (BS3.out.on hb)
  clear hb BS3 ql0 qa0 qb0
  have q := BS4.out.get (.tail _ (.head _))
  have ql1 := q.2.1
  have qa1 : w4.cell? ⟨W.heap.size + 1, 0, none⟩ = some (.slice D1 n1 c1) := q.2.2.cell 0
  have qb1 : w4.cell? ⟨W.heap.size + 1, 1, none⟩ = some (.slice E1 m1 d1) := q.2.2.cell 1
  clear q
  go_wp2_with fail
  refine (V1.out _ BS4.out.below).mono ?_
  rintro e w5 ⟨rfl, hb⟩
  have BS5 := Lib.hid (BS4.out.on hb)
  clear hb BS4 ql1 qa1 qb1
  have q := BS5.out.get (.head _)
  have ql2 := q.2.1
  have qa2 : w5.cell? ⟨W.heap.size + 1 + 1, 0, none⟩ = some (.slice D2 n2 c2) := q.2.2.cell 0
  have qb2 : w5.cell? ⟨W.heap.size + 1 + 1, 1, none⟩ = some (.slice E2 m2 d2) := q.2.2.cell 1
  clear q
  go_wp2_with fail
  refine (V2.out _ BS5.out.below).mono ?_
  rintro e w6 ⟨rfl, hb⟩
  have BS6 := Lib.hid (BS5.out.on hb)
  clear hb BS5 ql2 qa2 qb2
  replace S0 := Lib.hid (S0.out.below BS6.out.below)
  replace S1 := Lib.hid (S1.out.below BS6.out.below)
  replace S2 := Lib.hid (S2.out.below BS6.out.below)
  clear B0 B1 B2 V0 V1 V2
  have q := BS6.out.get (.tail _ (.tail _ (.head _)))
  have ql0 := q.2.1
  have qa0 : w6.cell? ⟨W.heap.size, 0, none⟩ = some (.slice D0 n0 c0) := q.2.2.cell 0
  have qb0 : w6.cell? ⟨W.heap.size, 1, none⟩ = some (.slice E0 m0 d0) := q.2.2.cell 1
  clear q
  have q := BS6.out.get (.tail _ (.head _))
  have ql1 := q.2.1
  have qa1 : w6.cell? ⟨W.heap.size + 1, 0, none⟩ = some (.slice D1 n1 c1) := q.2.2.cell 0
  have qb1 : w6.cell? ⟨W.heap.size + 1, 1, none⟩ = some (.slice E1 m1 d1) := q.2.2.cell 1
  clear q
  go_wp2_with fail
  refine (add_s S0.out S1.out (by omega)).mono ?_
  rintro e w7 ⟨⟨Da, la, ca, Ea, ma, ka, ra, sa, rfl, sx, rx, _, _⟩, hb⟩
  have BQ := Lib.hid (BS6.out.on hb)
  have BS7 := Lib.hid (BQ.out.alloc TF #[.slice Da la ca, .slice Ea ma ka])
  replace S0 := Lib.hid ((S0.out.below hb).below ((Below.refl _ _).alloc (Nat.le_refl _) (.cells #[.slice Da la ca, .slice Ea ma ka] TF)))
  replace S1 := Lib.hid ((S1.out.below hb).below ((Below.refl _ _).alloc (Nat.le_refl _) (.cells #[.slice Da la ca, .slice Ea ma ka] TF)))
  replace S2 := Lib.hid ((S2.out.below hb).below ((Below.refl _ _).alloc (Nat.le_refl _) (.cells #[.slice Da la ca, .slice Ea ma ka] TF)))
  have Sa := Lib.hid (sx.below ((Below.refl _ _).alloc (Nat.le_refl _) (.cells #[.slice Da la ca, .slice Ea ma ka] TF)))
  have Ra := Lib.hid rx
  clear hb sx rx BS6 ql0 qa0 qb0 ql1 qa1 qb1
  have q := BQ.out.get (.tail _ (.head _))
  have ql1 := q.2.1
  have qa1 : w7.cell? ⟨W.heap.size + 1, 0, none⟩ = some (.slice D1 n1 c1) := q.2.2.cell 0
  have qb1 : w7.cell? ⟨W.heap.size + 1, 1, none⟩ = some (.slice E1 m1 d1) := q.2.2.cell 1
  clear q
  have q := BQ.out.get (.tail _ (.tail _ (.head _)))
  have ql0 := q.2.1
  have qa0 : w7.cell? ⟨W.heap.size, 0, none⟩ = some (.slice D0 n0 c0) := q.2.2.cell 0
  have qb0 : w7.cell? ⟨W.heap.size, 1, none⟩ = some (.slice E0 m0 d0) := q.2.2.cell 1
  clear q
  go_wp2_with fail
  refine (add_s S1.out S0.out (by omega)).mono ?_
  rintro e w8 ⟨⟨Db, lb, cb, Eb, mb, kb, rb, sb, rfl, sx, rx, _, _⟩, hb⟩
  clear BQ
  have BQ := Lib.hid (BS7.out.on hb)
  have BS8 := Lib.hid (BQ.out.alloc TF #[.slice Db lb cb, .slice Eb mb kb])
  replace S0 := Lib.hid ((S0.out.below hb).below ((Below.refl _ _).alloc (Nat.le_refl _) (.cells #[.slice Db lb cb, .slice Eb mb kb] TF)))
  replace S1 := Lib.hid ((S1.out.below hb).below ((Below.refl _ _).alloc (Nat.le_refl _) (.cells #[.slice Db lb cb, .slice Eb mb kb] TF)))
  replace S2 := Lib.hid ((S2.out.below hb).below ((Below.refl _ _).alloc (Nat.le_refl _) (.cells #[.slice Db lb cb, .slice Eb mb kb] TF)))
  replace Sa := Lib.hid ((Sa.out.below hb).below ((Below.refl _ _).alloc (Nat.le_refl _) (.cells #[.slice Db lb cb, .slice Eb mb kb] TF)))
  have Sb := Lib.hid (sx.below ((Below.refl _ _).alloc (Nat.le_refl _) (.cells #[.slice Db lb cb, .slice Eb mb kb] TF)))
  have Rb := Lib.hid rx
  clear hb sx rx BS7 ql1 qa1 qb1 ql0 qa0 qb0
  have q := BQ.out.get (.tail _ (.tail _ (.head _)))
  have ql1 := q.2.1
  have qa1 : w8.cell? ⟨W.heap.size + 1, 0, none⟩ = some (.slice D1 n1 c1) := q.2.2.cell 0
  have qb1 : w8.cell? ⟨W.heap.size + 1, 1, none⟩ = some (.slice E1 m1 d1) := q.2.2.cell 1
  clear q
  have q := BQ.out.get (.tail _ (.head _))
  have ql2 := q.2.1
  have qa2 : w8.cell? ⟨W.heap.size + 1 + 1, 0, none⟩ = some (.slice D2 n2 c2) := q.2.2.cell 0
  have qb2 : w8.cell? ⟨W.heap.size + 1 + 1, 1, none⟩ = some (.slice E2 m2 d2) := q.2.2.cell 1
  clear q
  go_wp2_with fail
  refine (add_s S1.out S2.out (by omega)).mono ?_
  rintro e w9 ⟨⟨Dc, lc, cc, Ec, mc, kc, rc, sc, rfl, sx, rx, _, _⟩, hb⟩
  clear BQ
  have BQ := Lib.hid (BS8.out.on hb)
  have BS9 := Lib.hid (BQ.out.alloc TF #[.slice Dc lc cc, .slice Ec mc kc])
  replace S0 := Lib.hid ((S0.out.below hb).below ((Below.refl _ _).alloc (Nat.le_refl _) (.cells #[.slice Dc lc cc, .slice Ec mc kc] TF)))
  replace S1 := Lib.hid ((S1.out.below hb).below ((Below.refl _ _).alloc (Nat.le_refl _) (.cells #[.slice Dc lc cc, .slice Ec mc kc] TF)))
  replace S2 := Lib.hid ((S2.out.below hb).below ((Below.refl _ _).alloc (Nat.le_refl _) (.cells #[.slice Dc lc cc, .slice Ec mc kc] TF)))
  replace Sa := Lib.hid ((Sa.out.below hb).below ((Below.refl _ _).alloc (Nat.le_refl _) (.cells #[.slice Dc lc cc, .slice Ec mc kc] TF)))
  replace Sb := Lib.hid ((Sb.out.below hb).below ((Below.refl _ _).alloc (Nat.le_refl _) (.cells #[.slice Dc lc cc, .slice Ec mc kc] TF)))
  have Sc := Lib.hid (sx.below ((Below.refl _ _).alloc (Nat.le_refl _) (.cells #[.slice Dc lc cc, .slice Ec mc kc] TF)))
  have Rc := Lib.hid rx
  clear hb sx rx BS8 ql1 qa1 qb1 ql2 qa2 qb2
  have q := BQ.out.get (.tail _ (.head _))
  have qla := q.2.1
  have qaa : w9.cell? ⟨w7.heap.size, 0, none⟩ = some (.slice Da la ca) := q.2.2.cell 0
  have qba : w9.cell? ⟨w7.heap.size, 1, none⟩ = some (.slice Ea ma ka) := q.2.2.cell 1
  clear q
  have q := BQ.out.get (.tail _ (.tail _ (.head _)))
  have ql2 := q.2.1
  have qa2 : w9.cell? ⟨W.heap.size + 1 + 1, 0, none⟩ = some (.slice D2 n2 c2) := q.2.2.cell 0
  have qb2 : w9.cell? ⟨W.heap.size + 1 + 1, 1, none⟩ = some (.slice E2 m2 d2) := q.2.2.cell 1
  clear q
  go_wp2_with fail
  refine (add_s Sa.out S2.out (by omega)).mono ?_
  rintro e w10 ⟨⟨Dd, ld, cd, Ed, md, kd, rd, sd, rfl, sx, rx, _, _⟩, hb⟩
  clear BQ
  have BQ := Lib.hid (BS9.out.on hb)
  have BS10 := Lib.hid (BQ.out.alloc TF #[.slice Dd ld cd, .slice Ed md kd])
  replace S0 := Lib.hid ((S0.out.below hb).below ((Below.refl _ _).alloc (Nat.le_refl _) (.cells #[.slice Dd ld cd, .slice Ed md kd] TF)))
  replace S1 := Lib.hid ((S1.out.below hb).below ((Below.refl _ _).alloc (Nat.le_refl _) (.cells #[.slice Dd ld cd, .slice Ed md kd] TF)))
  replace S2 := Lib.hid ((S2.out.below hb).below ((Below.refl _ _).alloc (Nat.le_refl _) (.cells #[.slice Dd ld cd, .slice Ed md kd] TF)))
  replace Sa := Lib.hid ((Sa.out.below hb).below ((Below.refl _ _).alloc (Nat.le_refl _) (.cells #[.slice Dd ld cd, .slice Ed md kd] TF)))
  replace Sb := Lib.hid ((Sb.out.below hb).below ((Below.refl _ _).alloc (Nat.le_refl _) (.cells #[.slice Dd ld cd, .slice Ed md kd] TF)))
  replace Sc := Lib.hid ((Sc.out.below hb).below ((Below.refl _ _).alloc (Nat.le_refl _) (.cells #[.slice Dd ld cd, .slice Ed md kd] TF)))
  have Sd := Lib.hid (sx.below ((Below.refl _ _).alloc (Nat.le_refl _) (.cells #[.slice Dd ld cd, .slice Ed md kd] TF)))
  have Rd := Lib.hid rx
  clear hb sx rx BS9 qla qaa qba ql2 qa2 qb2
  have q := BQ.out.get (.tail _ (.tail _ (.tail _ (.tail _ (.tail _ (.head _))))))
  have ql0 := q.2.1
  have qa0 : w10.cell? ⟨W.heap.size, 0, none⟩ = some (.slice D0 n0 c0) := q.2.2.cell 0
  have qb0 : w10.cell? ⟨W.heap.size, 1, none⟩ = some (.slice E0 m0 d0) := q.2.2.cell 1
  clear q
  have q := BQ.out.get (.head _)
  have qlc := q.2.1
  have qac : w10.cell? ⟨w9.heap.size, 0, none⟩ = some (.slice Dc lc cc) := q.2.2.cell 0
  have qbc : w10.cell? ⟨w9.heap.size, 1, none⟩ = some (.slice Ec mc kc) := q.2.2.cell 1
  clear q
  go_wp2_with fail
  refine (add_s S0.out Sc.out (by omega)).mono ?_
  rintro e w11 ⟨⟨De, le, ce, Ee, me, ke, re, se, rfl, sx, rx, _, _⟩, hb⟩
  clear BQ
  have BQ := Lib.hid (BS10.out.on hb)
  have BS11 := Lib.hid (BQ.out.alloc TF #[.slice De le ce, .slice Ee me ke])
  replace S0 := Lib.hid ((S0.out.below hb).below ((Below.refl _ _).alloc (Nat.le_refl _) (.cells #[.slice De le ce, .slice Ee me ke] TF)))
  replace S1 := Lib.hid ((S1.out.below hb).below ((Below.refl _ _).alloc (Nat.le_refl _) (.cells #[.slice De le ce, .slice Ee me ke] TF)))
  replace S2 := Lib.hid ((S2.out.below hb).below ((Below.refl _ _).alloc (Nat.le_refl _) (.cells #[.slice De le ce, .slice Ee me ke] TF)))
  replace Sa := Lib.hid ((Sa.out.below hb).below ((Below.refl _ _).alloc (Nat.le_refl _) (.cells #[.slice De le ce, .slice Ee me ke] TF)))
  replace Sb := Lib.hid ((Sb.out.below hb).below ((Below.refl _ _).alloc (Nat.le_refl _) (.cells #[.slice De le ce, .slice Ee me ke] TF)))
  replace Sc := Lib.hid ((Sc.out.below hb).below ((Below.refl _ _).alloc (Nat.le_refl _) (.cells #[.slice De le ce, .slice Ee me ke] TF)))
  replace Sd := Lib.hid ((Sd.out.below hb).below ((Below.refl _ _).alloc (Nat.le_refl _) (.cells #[.slice De le ce, .slice Ee me ke] TF)))
  have Se := Lib.hid (sx.below ((Below.refl _ _).alloc (Nat.le_refl _) (.cells #[.slice De le ce, .slice Ee me ke] TF)))
  have Re := Lib.hid rx
  clear hb sx rx BS10 ql0 qa0 qb0 qlc qac qbc
  have q := BQ.out.get (.tail _ (.tail _ (.tail _ (.head _))))
  have qla := q.2.1
  have qaa : w11.cell? ⟨w7.heap.size, 0, none⟩ = some (.slice Da la ca) := q.2.2.cell 0
  have qba : w11.cell? ⟨w7.heap.size, 1, none⟩ = some (.slice Ea ma ka) := q.2.2.cell 1
  clear q
  have q := BQ.out.get (.tail _ (.tail _ (.tail _ (.tail _ (.tail _ (.head _))))))
  have ql1 := q.2.1
  have qa1 : w11.cell? ⟨W.heap.size + 1, 0, none⟩ = some (.slice D1 n1 c1) := q.2.2.cell 0
  have qb1 : w11.cell? ⟨W.heap.size + 1, 1, none⟩ = some (.slice E1 m1 d1) := q.2.2.cell 1
  clear q
  go_wp2_with fail
  refine (sub_s Sa.out S1.out (by omega) (q_le (fok_pos S0.out.num.ok) Ra.out)).mono ?_
  rintro e w12 ⟨⟨Df, lf, cf, Ef, mf, kf, rf, sf, rfl, sx, rx, _, _⟩, hb⟩
  clear BQ
  have BQ := Lib.hid (BS11.out.on hb)
  have BS12 := Lib.hid (BQ.out.alloc TF #[.slice Df lf cf, .slice Ef mf kf])
  replace S0 := Lib.hid ((S0.out.below hb).below ((Below.refl _ _).alloc (Nat.le_refl _) (.cells #[.slice Df lf cf, .slice Ef mf kf] TF)))
  replace S1 := Lib.hid ((S1.out.below hb).below ((Below.refl _ _).alloc (Nat.le_refl _) (.cells #[.slice Df lf cf, .slice Ef mf kf] TF)))
  replace S2 := Lib.hid ((S2.out.below hb).below ((Below.refl _ _).alloc (Nat.le_refl _) (.cells #[.slice Df lf cf, .slice Ef mf kf] TF)))
  replace Sa := Lib.hid ((Sa.out.below hb).below ((Below.refl _ _).alloc (Nat.le_refl _) (.cells #[.slice Df lf cf, .slice Ef mf kf] TF)))
  replace Sb := Lib.hid ((Sb.out.below hb).below ((Below.refl _ _).alloc (Nat.le_refl _) (.cells #[.slice Df lf cf, .slice Ef mf kf] TF)))
  replace Sc := Lib.hid ((Sc.out.below hb).below ((Below.refl _ _).alloc (Nat.le_refl _) (.cells #[.slice Df lf cf, .slice Ef mf kf] TF)))
  replace Sd := Lib.hid ((Sd.out.below hb).below ((Below.refl _ _).alloc (Nat.le_refl _) (.cells #[.slice Df lf cf, .slice Ef mf kf] TF)))
  replace Se := Lib.hid ((Se.out.below hb).below ((Below.refl _ _).alloc (Nat.le_refl _) (.cells #[.slice Df lf cf, .slice Ef mf kf] TF)))
  have Sf := Lib.hid (sx.below ((Below.refl _ _).alloc (Nat.le_refl _) (.cells #[.slice Df lf cf, .slice Ef mf kf] TF)))
  have Rf := Lib.hid rx
  clear hb sx rx BS11 qla qaa qba ql1 qa1 qb1
  go_wp2_with fail
  obtain ⟨wz, hwz⟩ : ∃ wz, wz = w12.alloc (.cells #[.slice Df lf cf, .slice Ef mf kf] TF) := ⟨_, rfl⟩
  change Code.wp _ _ _ _ (w12.alloc (.cells #[.slice Df lf cf, .slice Ef mf kf] TF))
  rw [← hwz] at BS12 S0 S1 S2 Sa Sb Sc Sd Se Sf ⊢
  clear BQ hwz
  have HALL : Hid (∀ w', Below wz.heap.size wz w' → w'.cell? ⟨W.heap.size, 0, none⟩ = some (.slice D0 n0 c0) ∧ w'.cell? ⟨W.heap.size, 1, none⟩ = some (.slice E0 m0 d0) ∧ Below wz.heap.size wz w') := Lib.hid fun w' hw => by
    have q := ((BS12.out.on hw).get (.tail _ (.tail _ (.tail _ (.tail _ (.tail _ (.tail _ (.tail _ (.tail _ (.head _)))))))))).2.2
    exact ⟨q.cell 0, q.cell 1, hw⟩
  have HOF : Hid (∀ w', Below wz.heap.size wz w' → Calls Try.prog 34 #[.int .u32 0, .int .u32 1] w' fun e w'' => ∃ D c E, e = .returned (.agg #[.slice D 0 c, .slice E 1 1]) ∧ FrS w'' D 0 E 1 0 1 1 ∧ Below w'.heap.size w' w'' ∧ Below wz.heap.size wz w'') := Lib.hid fun w' hw =>
    (small_any w' (x := 0) (y := 1) (by omega) (by omega) (by omega)).mono fun e w'' ⟨D, c, E, h1, h2, h3, h4⟩ => by
      have e0 : L32 0 = 0 := L32_zero.2 rfl
      rw [e0] at h1 h2
      exact ⟨D, c, E, h1, ⟨⟨by omega, by omega, e0.symm, (L32_one (by omega) (by omega)).symm, h2, h3, by decide⟩, by unfold Fit32; decide, by unfold Fit32; decide⟩, h4, Below.on hw h4⟩
  have HMU : Hid (∀ w' D c E, FrS w' D 0 E 1 0 1 1 → Below wz.heap.size wz w' → Calls Try.prog 24 #[.agg #[.slice D0 n0 c0, .slice E0 m0 d0], .agg #[.slice D 0 c, .slice E 1 1]] w' fun e w'' => RS w'.heap.size w'' e 10 (x0 * 1 + 0 * y0) (y0 * 1) ∧ Below w'.heap.size w' w'' ∧ Below wz.heap.size wz w'') := Lib.hid fun w' D c E h hw =>
    (add_s (S0.out.below hw) h (by omega)).mono fun e w'' ⟨h1, h2⟩ => ⟨h1, h2, Below.on hw h2⟩
  have A0 : Below wz.heap.size wz wz.drew := (Below.refl _ _).drew
  go_upto_region 9 with (fail)
  go_cut [19, 20] (fun s19 s20 wx => ∃ (b : Nat) (D : Option Addr) (l c : Nat) (E : Option Addr) (m c' r t : Nat), s19 = .pointer (some ⟨b, 0, none⟩) ∧ s20 = .int .i64 0 ∧ Hid (Blk wx b TF #[.slice D l c, .slice E m c']) ∧ Hid (FrS wx D l E m r t 10) ∧ Hid (Rep r t (x0 * 1 + 0 * y0) (y0 * 1)) ∧ Hid (Below wz.heap.size wz wx))
  case first =>
    go_region_held3 (fun w' => w'.cell? ⟨W.heap.size, 0, none⟩ = some (.slice D0 n0 c0) ∧ w'.cell? ⟨W.heap.size, 1, none⟩ = some (.slice E0 m0 d0) ∧ Below wz.heap.size wz w')
      ((refine HALL.out _ ?_; repeat' (first | exact (by assumption) | exact Below.refl _ _ | refine bl_alloc ?_ _ | refine bse ?_ (by first | omega | (simp; done) | (simp; omega)) _ _ | refine Below.drew ?_)))
      (first
        | (go_at_call 34; (with_reducible refine (HOF.out _ ?_).mono ?_); (first | assumption | exact bl_alloc (by assumption) _); rintro e5 w5 ⟨D5, c5, E5, rfl, h5, hb5, t5⟩; obtain ⟨bc5, bf5⟩ := bcell hb5; have s5 := t5.size)
        | (go_at_call 24; (with_reducible refine (HMU.out _ _ _ _ ?_ ?_).mono ?_); (first | exact h5 | exact h5.below (bl_alloc (Below.refl _ _) _)); (first | assumption | exact bl_alloc (by assumption) _); rintro e6 w6 ⟨⟨D6, l6, c6, E6, m6, k6, r6, s6, rfl, h6, g6, fx, fy⟩, hb6, t6⟩; obtain ⟨bc6, bf6⟩ := bcell hb6; have k56 : Below w5.heap.size w5 w6 := (by first | exact hb6 | exact bl_on (bl_alloc (Below.refl _ _) _) hb6); obtain ⟨bc56, bf56⟩ := bcell (bl_on hb5 k56); have s6' := t6.size)
        | fail)
    all_goals
      go_wp2_with fail
      go_meet
      case rel =>
        first
          | exact ⟨_, _, _, _, _, _, _, _, _, rfl, rfl, Lib.hid (Blk.new w6 _ _), Lib.hid (h6.below (bl_box _)), Lib.hid g6, Lib.hid (bl_alloc t6 _)⟩
          | exact ⟨_, _, _, _, _, _, _, _, _, rfl, rfl, Lib.hid ((((Blk.new w5 _ _).keep hb6).set_ 0 _).set_ 1 _), Lib.hid ((h6.set_ fx fy (by simp) 0 _).set_ fx fy (by simp) 1 _), Lib.hid g6, Lib.hid (bse (bse t6 s5 0 _) s5 1 _)⟩
          | exact ⟨_, _, _, _, _, _, _, _, _, rfl, rfl, Lib.hid (((((Blk.new wz.drew _ _).keep hb5).keep hb6).set_ 0 _).set_ 1 _), Lib.hid ((h6.set_ fx fy (by have h1 := hb5.size; simp at h1; omega) 0 _).set_ fx fy (by have h1 := hb5.size; simp at h1; omega) 1 _), Lib.hid g6, Lib.hid (bse (bse t6 (Nat.le_refl _) 0 _) (Nat.le_refl _) 1 _)⟩
  case rest =>
    obtain ⟨b, Di, li, ci, Ei, mi, ki, ri, si, rfl, rfl, KB, Si, Ri, BW⟩ := hcut
    have hc8 := BW.out
    clear BW
    have BQ := Lib.hid (BS12.out.on hc8)
    replace S0 := Lib.hid (S0.out.below hc8)
    replace S1 := Lib.hid (S1.out.below hc8)
    replace S2 := Lib.hid (S2.out.below hc8)
    replace Sa := Lib.hid (Sa.out.below hc8)
    replace Sb := Lib.hid (Sb.out.below hc8)
    replace Sc := Lib.hid (Sc.out.below hc8)
    replace Sd := Lib.hid (Sd.out.below hc8)
    replace Se := Lib.hid (Se.out.below hc8)
    replace Sf := Lib.hid (Sf.out.below hc8)
    clear hc8 BS12 HALL HOF HMU A0
    have q := BQ.out.get (.tail _ (.tail _ (.tail _ (.tail _ (.tail _ (.head _))))))
    have qla := q.2.1
    have qaa : wc.cell? ⟨w7.heap.size, 0, none⟩ = some (.slice Da la ca) := q.2.2.cell 0
    have qba : wc.cell? ⟨w7.heap.size, 1, none⟩ = some (.slice Ea ma ka) := q.2.2.cell 1
    clear q
    have q := BQ.out.get (.tail _ (.tail _ (.tail _ (.tail _ (.head _)))))
    have qlb := q.2.1
    have qab : wc.cell? ⟨w8.heap.size, 0, none⟩ = some (.slice Db lb cb) := q.2.2.cell 0
    have qbb : wc.cell? ⟨w8.heap.size, 1, none⟩ = some (.slice Eb mb kb) := q.2.2.cell 1
    clear q
    go_wp2_with fail
    refine (same_s Sa.out Sb.out (q_comm Ra.out Rb.out Sa.out.num.ok Sb.out.num.ok)).mono ?_
    rintro e w23 ⟨rfl, hb⟩
    replace BQ := Lib.hid (BQ.out.on hb)
    replace KB := Lib.hid (KB.out.keep hb)
    replace S0 := Lib.hid (S0.out.below hb)
    replace S1 := Lib.hid (S1.out.below hb)
    replace S2 := Lib.hid (S2.out.below hb)
    replace Sa := Lib.hid (Sa.out.below hb)
    replace Sb := Lib.hid (Sb.out.below hb)
    replace Sc := Lib.hid (Sc.out.below hb)
    replace Sd := Lib.hid (Sd.out.below hb)
    replace Se := Lib.hid (Se.out.below hb)
    replace Sf := Lib.hid (Sf.out.below hb)
    replace Si := Lib.hid (Si.out.below hb)
    clear hb qla qaa qba qlb qab qbb
    have q := BQ.out.get (.tail _ (.tail _ (.head _)))
    have qld := q.2.1
    have qad : w23.cell? ⟨w10.heap.size, 0, none⟩ = some (.slice Dd ld cd) := q.2.2.cell 0
    have qbd : w23.cell? ⟨w10.heap.size, 1, none⟩ = some (.slice Ed md kd) := q.2.2.cell 1
    clear q
    have q := BQ.out.get (.tail _ (.head _))
    have qle := q.2.1
    have qae : w23.cell? ⟨w11.heap.size, 0, none⟩ = some (.slice De le ce) := q.2.2.cell 0
    have qbe : w23.cell? ⟨w11.heap.size, 1, none⟩ = some (.slice Ee me ke) := q.2.2.cell 1
    clear q
    go_wp2_with fail
    refine (same_s Sd.out Se.out (q_assoc (fok_pos S0.out.num.ok) (fok_pos S2.out.num.ok) Ra.out Rc.out Rd.out Re.out Sd.out.num.ok Se.out.num.ok)).mono ?_
    rintro e w24 ⟨rfl, hb⟩
    replace BQ := Lib.hid (BQ.out.on hb)
    replace KB := Lib.hid (KB.out.keep hb)
    replace S0 := Lib.hid (S0.out.below hb)
    replace S1 := Lib.hid (S1.out.below hb)
    replace S2 := Lib.hid (S2.out.below hb)
    replace Sa := Lib.hid (Sa.out.below hb)
    replace Sb := Lib.hid (Sb.out.below hb)
    replace Sc := Lib.hid (Sc.out.below hb)
    replace Sd := Lib.hid (Sd.out.below hb)
    replace Se := Lib.hid (Se.out.below hb)
    replace Sf := Lib.hid (Sf.out.below hb)
    replace Si := Lib.hid (Si.out.below hb)
    clear hb qld qad qbd qle qae qbe
    have q := BQ.out.get (.head _)
    have qlf := q.2.1
    have qaf : w24.cell? ⟨w12.heap.size, 0, none⟩ = some (.slice Df lf cf) := q.2.2.cell 0
    have qbf : w24.cell? ⟨w12.heap.size, 1, none⟩ = some (.slice Ef mf kf) := q.2.2.cell 1
    clear q
    have q := BQ.out.get (.tail _ (.tail _ (.tail _ (.tail _ (.tail _ (.tail _ (.tail _ (.tail _ (.head _)))))))))
    have ql0 := q.2.1
    have qa0 : w24.cell? ⟨W.heap.size, 0, none⟩ = some (.slice D0 n0 c0) := q.2.2.cell 0
    have qb0 : w24.cell? ⟨W.heap.size, 1, none⟩ = some (.slice E0 m0 d0) := q.2.2.cell 1
    clear q
    go_wp2_with fail
    refine (same_s Sf.out S0.out (q_back S0.out.num.ok (fok_pos S1.out.num.ok) Ra.out Rf.out Sf.out.num.ok)).mono ?_
    rintro e w25 ⟨rfl, hb⟩
    replace BQ := Lib.hid (BQ.out.on hb)
    replace KB := Lib.hid (KB.out.keep hb)
    replace S0 := Lib.hid (S0.out.below hb)
    replace S1 := Lib.hid (S1.out.below hb)
    replace S2 := Lib.hid (S2.out.below hb)
    replace Sa := Lib.hid (Sa.out.below hb)
    replace Sb := Lib.hid (Sb.out.below hb)
    replace Sc := Lib.hid (Sc.out.below hb)
    replace Sd := Lib.hid (Sd.out.below hb)
    replace Se := Lib.hid (Se.out.below hb)
    replace Sf := Lib.hid (Sf.out.below hb)
    replace Si := Lib.hid (Si.out.below hb)
    clear hb qlf qaf qbf ql0 qa0 qb0
    have qli := KB.out.lt
    have qai : w25.cell? ⟨b, 0, none⟩ = some (.slice Di li ci) := KB.out.cell 0
    have qbi : w25.cell? ⟨b, 1, none⟩ = some (.slice Ei mi ki) := KB.out.cell 1
    have q := BQ.out.get (.tail _ (.tail _ (.tail _ (.tail _ (.tail _ (.tail _ (.tail _ (.tail _ (.head _)))))))))
    have ql0 := q.2.1
    have qa0 : w25.cell? ⟨W.heap.size, 0, none⟩ = some (.slice D0 n0 c0) := q.2.2.cell 0
    have qb0 : w25.cell? ⟨W.heap.size, 1, none⟩ = some (.slice E0 m0 d0) := q.2.2.cell 1
    clear q
    go_wp2_with fail
    refine (same_s Si.out S0.out (q_zero S0.out.num.ok Ri.out Si.out.num.ok)).mono ?_
    rintro e w26 ⟨rfl, hb⟩
    replace BQ := Lib.hid (BQ.out.on hb)
    replace KB := Lib.hid (KB.out.keep hb)
    replace S0 := Lib.hid (S0.out.below hb)
    replace S1 := Lib.hid (S1.out.below hb)
    replace S2 := Lib.hid (S2.out.below hb)
    replace Sa := Lib.hid (Sa.out.below hb)
    replace Sb := Lib.hid (Sb.out.below hb)
    replace Sc := Lib.hid (Sc.out.below hb)
    replace Sd := Lib.hid (Sd.out.below hb)
    replace Se := Lib.hid (Se.out.below hb)
    replace Sf := Lib.hid (Sf.out.below hb)
    replace Si := Lib.hid (Si.out.below hb)
    clear hb qli qai qbi ql0 qa0 qb0
    have q := BQ.out.get (.tail _ (.tail _ (.tail _ (.tail _ (.tail _ (.tail _ (.tail _ (.tail _ (.head _)))))))))
    have ql0 := q.2.1
    have qa0 : w26.cell? ⟨W.heap.size, 0, none⟩ = some (.slice D0 n0 c0) := q.2.2.cell 0
    have qb0 : w26.cell? ⟨W.heap.size, 1, none⟩ = some (.slice E0 m0 d0) := q.2.2.cell 1
    clear q
    have q := BQ.out.get (.tail _ (.tail _ (.tail _ (.tail _ (.tail _ (.tail _ (.tail _ (.head _))))))))
    have ql1 := q.2.1
    have qa1 : w26.cell? ⟨W.heap.size + 1, 0, none⟩ = some (.slice D1 n1 c1) := q.2.2.cell 0
    have qb1 : w26.cell? ⟨W.heap.size + 1, 1, none⟩ = some (.slice E1 m1 d1) := q.2.2.cell 1
    clear q
    have q := BQ.out.get (.tail _ (.tail _ (.tail _ (.tail _ (.tail _ (.tail _ (.head _)))))))
    have ql2 := q.2.1
    have qa2 : w26.cell? ⟨W.heap.size + 1 + 1, 0, none⟩ = some (.slice D2 n2 c2) := q.2.2.cell 0
    have qb2 : w26.cell? ⟨W.heap.size + 1 + 1, 1, none⟩ = some (.slice E2 m2 d2) := q.2.2.cell 1
    clear q
    have q := BQ.out.get (.tail _ (.tail _ (.tail _ (.head _))))
    have qlc := q.2.1
    have qac : w26.cell? ⟨w9.heap.size, 0, none⟩ = some (.slice Dc lc cc) := q.2.2.cell 0
    have qbc : w26.cell? ⟨w9.heap.size, 1, none⟩ = some (.slice Ec mc kc) := q.2.2.cell 1
    clear q
    go_wp2_with fail
    refine (products_ok S0.out S1.out S2.out Sc.out Rc.out).mono ?_
    rintro e w27 ⟨rfl, hb⟩
    replace BQ := Lib.hid (BQ.out.on hb)
    replace KB := Lib.hid (KB.out.keep hb)
    replace S0 := Lib.hid (S0.out.below hb)
    replace S1 := Lib.hid (S1.out.below hb)
    replace S2 := Lib.hid (S2.out.below hb)
    replace Sa := Lib.hid (Sa.out.below hb)
    replace Sb := Lib.hid (Sb.out.below hb)
    replace Sc := Lib.hid (Sc.out.below hb)
    replace Sd := Lib.hid (Sd.out.below hb)
    replace Se := Lib.hid (Se.out.below hb)
    replace Sf := Lib.hid (Sf.out.below hb)
    replace Si := Lib.hid (Si.out.below hb)
    clear hb ql0 qa0 qb0 ql1 qa1 qb1 ql2 qa2 qb2 qlc qac qbc
    go_wp2_with fail
    refine (awake_any _).mono ?_
    rintro e w40 ⟨rfl, hb⟩
    have HB := Lib.hid (BQ.out.on hb).below
    clear hb BQ
    go_wp2
    go_ret
    exact ⟨rfl, HB.out⟩
end Fr
theorem fracField_walk (W : World) {D0 E0 D1 E1 D2 E2 : Option Addr} {n0 m0 n1 m1 n2 m2 c0 d0 c1 d1 c2 d2 : Nat} {f0 g0 f1 g1 f2 g2 : Nat → Nat} (a0 : FrArg W D0 n0 c0 f0 E0 m0 d0 g0) (a1 : FrArg W D1 n1 c1 f1 E1 m1 d1 g1) (a2 : FrArg W D2 n2 c2 f2 E2 m2 d2 g2) :
    Calls Try.prog 9 #[Fr.fv D0 n0 c0 E0 m0 d0, Fr.fv D1 n1 c1 E1 m1 d1, Fr.fv D2 n2 c2 E2 m2 d2] W fun e w' => e = .returned (.bool true) ∧ Below W.heap.size W w' := by
  cases h : ((decide (n0 ≤ 8) && decide (m0 ≤ 8)) && (decide (n1 ≤ 8) && decide (m1 ≤ 8)) && (decide (n2 ≤ 8) && decide (m2 ≤ 8)) && Fr.fvd n0 f0 m0 g0 && Fr.fvd n1 f1 m1 g1 && Fr.fvd n2 f2 m2 g2) with
  | false => exact Fr.gate_FracField a0 a1 a2 rfl rfl rfl rfl rfl rfl h
  | true =>
    simp only [Bool.and_eq_true, decide_eq_true_eq] at h
    obtain ⟨⟨⟨⟨⟨⟨q0, q1⟩, q2, q3⟩, q4, q5⟩, v0⟩, v1⟩, v2⟩ := h
    exact Fr.field_in (Fr.FrArg.num a0 v0) (Fr.FrArg.num a1 v1) (Fr.FrArg.num a2 v2) q0 q1 q2 q3 q4 q5
end Go.Proofs.Yteclghokkdkolaa
