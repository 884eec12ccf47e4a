/- The law FairnessExact. -/
import Derived.Test.YtiflmnmkmpjecaaFaExP
import Derived.Test.YtiflmnmkmpjecaaFaAwake
import Derived.Test.YtiflmnmkmpjecaaRows
import Derived.Deep.WholeRow
set_option linter.unusedVariables false
namespace Go.Proofs.Ytiflmnmkmpjecaa
open Go.RowKit
namespace Fa
open Fr
theorem gw_of (w : World) {x y p q : Nat} (hx : x ≤ 1000) (hy : y ≤ 1000) (hy0 : 0 < y) (hp : p = x / Nat.gcd x y) (hq : q = y / Nat.gcd x y) :
    Calls Try.prog 28 #[.int .i64 (x : Int), .int .i64 (y : Int)] w fun e w' => Res w.heap.size w' e p q ∧ Below w.heap.size w w' := by
  have := rof_ok w (x := x) (y := y) (by omega) (by omega) hy0
  rwa [← hp, ← hq] at this
theorem l64' {x y g : Nat} (h : x = y / g) (hy : y < 18446744073709551616) : L32 x ≤ 64 := by rw [h]; exact len_div (l64 hy)
theorem add_one {D0 D1' D2 D3 : Option Addr} {n0 n1 n2 n3 c0 c1 c2 c3 N1 D1 N2 D2' p q r s : Nat} {w : World} (h1D : 0 < D1) (h2D : 0 < D2') (b1 : N1 < 18446744073709551616) (b2 : D1 < 18446744073709551616) (b3 : N2 < 18446744073709551616) (b4 : D2' < 18446744073709551616) (hp : p = N1 / Nat.gcd N1 D1) (hq : q = D1 / Nat.gcd N1 D1) (hr : r = N2 / Nat.gcd N2 D2') (hs : s = D2' / Nat.gcd N2 D2') (hN : N1 * D2' + N2 * D1 = D1 * D2')
    (h0 : n0 = L32 p) (h1 : n1 = L32 q) (h2 : n2 = L32 r) (h3 : n3 = L32 s) (hx0 : Cells w D0 n0 (Lm (d32 p))) (hx1 : Cells w D1' n1 (Lm (d32 q))) (hx2 : Cells w D2 n2 (Lm (d32 r))) (hx3 : Cells w D3 n3 (Lm (d32 s))) :
    Calls Try.prog 18 #[.agg #[.slice D0 n0 c0, .slice D1' n1 c1], .agg #[.slice D2 n2 c2, .slice D3 n3 c3]] w fun e w' => Res w.heap.size w' e 1 1 ∧ Below w.heap.size w w' := by
  have f1 : Fit32 p 2 := fit_of (Nat.lt_of_le_of_lt (by rw [hp]; exact Nat.div_le_self _ _) b1)
  have f2 : Fit32 q 2 := fit_of (Nat.lt_of_le_of_lt (by rw [hq]; exact Nat.div_le_self _ _) b2)
  have f3 : Fit32 r 2 := fit_of (Nat.lt_of_le_of_lt (by rw [hr]; exact Nat.div_le_self _ _) b3)
  have f4 : Fit32 s 2 := fit_of (Nat.lt_of_le_of_lt (by rw [hs]; exact Nat.div_le_self _ _) b4)
  have g1 : Fit32 (p * s) 4 := fit32_mul f1 f4
  have g2 : Fit32 (r * q) 4 := fit32_mul f3 f2
  have g3 : Fit32 (q * s) 4 := fit32_mul f2 f4
  have g4 := fit_add g1 g2
  have k1 : fok p q = true := by rw [hp, hq]; exact fok_low h1D
  have k2 : fok r s = true := by rw [hr, hs]; exact fok_low h2D
  have r1 : Rep p q N1 D1 := by rw [hp, hq]; exact Rep.red h1D
  have r2 : Rep r s N2 D2' := by rw [hr, hs]; exact Rep.red h2D
  have e : (p * s + r * q) / Nat.gcd (p * s + r * q) (q * s) = 1 / Nat.gcd 1 1 ∧ q * s / Nat.gcd (p * s + r * q) (q * s) = 1 / Nat.gcd 1 1 := by
    refine red_eq (Nat.mul_pos r1.y0 r2.y0) (by omega) ?_
    refine Nat.eq_of_mul_eq_mul_right (Nat.mul_pos h1D h2D) ?_
    have e1 := r1.eq
    have e2 := r2.eq
    clear r1 r2 hp hq hr hs f1 f2 f3 f4 g1 g2 g3 g4
    have e3 : (p * s + r * q) * 1 * (D1 * D2') = (p * D1) * (s * D2') + (r * D2') * (q * D1) := by grind
    have e4 : 1 * (q * s) * (D1 * D2') = (q * s) * (N1 * D2' + N2 * D1) := by rw [hN]; grind
    rw [e3, e4, e1, e2]
    grind
  have H := radd_ok (c0 := c0) (c1 := c1) (c2 := c2) (c3 := c3) (by rw [h0]; exact Nat.le_trans (fit32_le f1) (by omega)) (by rw [h1]; exact Nat.le_trans (fit32_le f2) (by omega)) (by rw [h2]; exact Nat.le_trans (fit32_le f3) (by omega)) (by rw [h3]; exact Nat.le_trans (fit32_le f4) (by omega)) h0 h1 h2 h3 hx0 hx1 hx2 hx3 k1 k2
  rw [e.1, e.2, show 1 / Nat.gcd 1 1 = 1 by decide] at H
  exact H.mono fun e w' ⟨ho, hb⟩ => ⟨out_res ho ⟨Nat.le_trans (fit32_le g1) (by omega), Nat.le_trans (fit32_le g2) (by omega), Nat.le_trans (fit32_le g3) (by omega), Nat.le_trans (fit32_le g4) (by omega)⟩, hb⟩
theorem zz {C : Nat} (h : 0 < C) : 0 / Nat.gcd 0 C = 0 ∧ C / Nat.gcd 0 C = 1 ∧ C / Nat.gcd C C = 1 := ⟨Nat.zero_div _, by rw [Nat.gcd_zero_left, Nat.div_self h], by rw [Nat.gcd_self, Nat.div_self h]⟩
/-- The result of a call as fresh slices by numbers. -/
theorem res_out {B : Nat} {w' : World} {e : Ending} {p q : Nat} (h : Res B w' e p q) : ∃ (D : Option Addr) (l c : Nat) (E : Option Addr) (m c' : Nat), e = .returned (.tuple #[.agg #[.slice D l c, .slice E m c'], .int .i64 0]) ∧ Hid (l = L32 p) ∧ Hid (m = L32 q) ∧ Cells w' D l (Lm (d32 p)) ∧ Cells w' E m (Lm (d32 q)) ∧ Fresh B D ∧ Fresh B E := by
  obtain ⟨D, c, E, c', rfl, _, _, h1, h2, h3, h4⟩ := h
  exact ⟨D, _, c, E, _, c', rfl, Lib.hid rfl, Lib.hid rfl, h1, h2, h3, h4⟩
theorem wi64 {z : Nat} (h : z ≤ 1000) : IntKind.i64.wrap (z : Int) = (z : Int) := IntWalk.i64_in _ (by omega)
theorem wu8_all : ∀ z, z < 256 → IntKind.u8.wrap ((z : Nat) : Int) = (z : Int) := by decide +kernel
theorem wu8 {z : Nat} (h : z ≤ 255) : IntKind.u8.wrap (z : Int) = (z : Int) := wu8_all z (by omega)
set_option maxHeartbeats 16000000 in
set_option maxRecDepth 100000 in
theorem exact_main {W : World} {av bv iv x y m d o i j x2 k k2 xy : Nat} (hx13 : x < 13) (hy13 : y < 13) (hm11 : m < 11) (hd71 : d < 71) (hi17 : i < 17) (hkx : k < x2) (ho : o = m + d) (hj : j = 16 - i) (hx2 : x2 = x + 2) (hk2 : k2 = x + 1 - k) (hxy : xy = x + y) (hbv : bv ≤ 255)
    (a1 : (av : Int).tmod 13 = (x : Int)) (a2 : (bv : Int).tmod 13 = (y : Int)) (a3 : (av : Int).tmod 11 = (m : Int)) (a4 : (bv : Int).tmod 71 = (d : Int)) (a5 : (iv : Int).tmod 17 = (i : Int)) (a6 : (bv : Int).tmod (x2 : Int) = (k : Int)) :
    Calls Try.prog 9 #[.int .u8 (av : Int), .int .u8 (bv : Int), .int .u8 (iv : Int)] W fun e w' => e = .returned (.bool true) ∧ Below W.heap.size W w' := by
  have AW : Hid (∀ w', Calls Try.prog 11 #[] w' fun e w'' => e = .returned (.bool true) ∧ Below w'.heap.size w' w'') := Lib.hid awake_any
  have b1 := wu8 (z := x) (by omega)
  have b2 := wu8 (z := y) (by omega)
  have b3 := wu8 (z := m) (by omega)
  have b5 := wu8 (z := i) (by omega)
  have c1 := wi64 (z := x) (by omega)
  have c2 := wi64 (z := y) (by omega)
  have c3 := wi64 (z := m) (by omega)
  have c4 := wi64 (z := bv) (by omega)
  have c5 := wi64 (z := i) (by omega)
  have c6 := wi64 (z := d) (by omega)
  have c7 := wi64 (z := k) (by omega)
  have d1 : IntKind.i64.wrap ((x : Int) + (y : Int)) = (xy : Int) := by rw [show (x : Int) + (y : Int) = (xy : Int) by omega]; exact wi64 (by omega)
  have d2 : IntKind.i64.wrap ((m : Int) + (d : Int)) = (o : Int) := by rw [show (m : Int) + (d : Int) = (o : Int) by omega]; exact wi64 (by omega)
  have d3 : IntKind.i64.wrap (16 - (i : Int)) = (j : Int) := by rw [show 16 - (i : Int) = (j : Int) by omega]; exact wi64 (by omega)
  have d4 : IntKind.i64.wrap ((x : Int) + 2) = (x2 : Int) := by rw [show (x : Int) + 2 = (x2 : Int) by omega]; exact wi64 (by omega)
  obtain ⟨dk, hdk⟩ : ∃ v, v = (x : Int) - (k : Int) := ⟨_, rfl⟩
  have d5 : IntKind.i64.wrap ((x : Int) - (k : Int)) = dk := by rw [← hdk]; exact IntWalk.i64_in _ (by omega)
  have d6 : IntKind.i64.wrap (dk + 1) = (k2 : Int) := by rw [show dk + 1 = (k2 : Int) by omega]; exact wi64 (by omega)
  have n2 : ((x2 : Int) == 0) = false := by
    simp
    omega
  have n3 : ¬ ((x2 : Int) = 0) := by omega
  -- the chances of runs
  obtain ⟨C, hC⟩ : ∃ v, v = cb xy x := ⟨_, rfl⟩
  have HC := Lib.hid (show C < 18446744073709551616 ∧ 0 < C from ⟨by rw [hC, hxy]; exact cb_small1 x hx13 y hy13, by rw [hC, hxy]; exact cb_pos (by omega)⟩)
  have HS : Hid (∀ k, k ≤ xy + 1 → s1 x y k ≤ C) := Lib.hid fun k hk => by rw [hC, hxy]; exact s1_le hx13 hy13 (by omega)
  have HSA : Hid (s1 x y (xy + 1) = C) := Lib.hid (by rw [hC, hxy]; exact s1_all x hx13 y hy13)
  have HRU : Hid (∀ (r : Nat), r ≤ xy → ∀ w', Calls Try.prog 23 #[.int .i64 (x : Int), .int .i64 (y : Int), .int .i64 (r : Int)] w' fun e w'' => Gw w'' e (rc x y (r : Int) / Nat.gcd (rc x y (r : Int)) C) (C / Nat.gcd (rc x y (r : Int)) C) 0 ∧ Below w'.heap.size w' w'') := Lib.hid fun r hr w' => by
    have h1 : rc x y (r : Int) ≤ C := by have := HS.out (r + 1) (by omega); rw [s1] at this; omega
    have h := runs_any w' (a := x) (b := y) (r : Int) (by omega) (by omega)
    rw [← hxy, ← hC] at h
    refine h.mono fun e w'' ⟨k1, k2⟩ => ⟨Gw.res k1 (l64' rfl (Nat.lt_of_le_of_lt h1 HC.out.1)) (l64' rfl HC.out.1), k2⟩
  have HAD : Hid (∀ (r : Nat), r ≤ xy → ∀ {w' : World} {D0 D1 D2 D3 : Option Addr} {n0 n1 n2 n3 c0 c1 c2 c3 : Nat}, n0 = L32 (s1 x y r / Nat.gcd (s1 x y r) C) → n1 = L32 (C / Nat.gcd (s1 x y r) C) → n2 = L32 (rc x y (r : Int) / Nat.gcd (rc x y (r : Int)) C) → n3 = L32 (C / Nat.gcd (rc x y (r : Int)) C) → Cells w' D0 n0 (Lm (d32 (s1 x y r / Nat.gcd (s1 x y r) C))) → Cells w' D1 n1 (Lm (d32 (C / Nat.gcd (s1 x y r) C))) → Cells w' D2 n2 (Lm (d32 (rc x y (r : Int) / Nat.gcd (rc x y (r : Int)) C))) → Cells w' D3 n3 (Lm (d32 (C / Nat.gcd (rc x y (r : Int)) C))) →
      Calls Try.prog 18 #[.agg #[.slice D0 n0 c0, .slice D1 n1 c1], .agg #[.slice D2 n2 c2, .slice D3 n3 c3]] w' fun e w'' => Res w'.heap.size w'' e (s1 x y (r + 1) / Nat.gcd (s1 x y (r + 1)) C) (C / Nat.gcd (s1 x y (r + 1)) C) ∧ Below w'.heap.size w' w'') := Lib.hid fun r hr w' D0 D1 D2 D3 n0 n1 n2 n3 c0 c1 c2 c3 e0 e1 e2 e3 h0 h1 h2 h3 => by
    have h1' : rc x y (r : Int) ≤ C := by have := HS.out (r + 1) (by omega); rw [s1] at this; omega
    exact add_res HC.out.2 (Nat.lt_of_le_of_lt (HS.out r (by omega)) HC.out.1) (Nat.lt_of_le_of_lt h1' HC.out.1) HC.out.1 rfl rfl rfl rfl rfl rfl e0 e1 e2 e3 h0 h1 h2 h3
  -- the chances of hits
  obtain ⟨Z, hZ⟩ : ∃ v, v = cb o m := ⟨_, rfl⟩
  have HZ := Lib.hid (show Z < 18446744073709551616 ∧ 0 < Z from ⟨by rw [hZ, ho]; exact cb_small2 m hm11 d hd71, by rw [hZ, ho]; exact cb_pos (by omega)⟩)
  have HT : Hid (∀ k, k ≤ m + 1 → s2 m o k ≤ Z) := Lib.hid fun k hk => by rw [hZ, ho]; exact s2_le hm11 hd71 hk
  have HTA : Hid (s2 m o (m + 1) = Z) := Lib.hid (by rw [hZ, ho]; exact s2_all m hm11 d hd71)
  have HHI : Hid (∀ (r : Nat), r ≤ m → ∀ w', Calls Try.prog 26 #[.agg #[.string ⟨#[]⟩, .int .i64 1, .int .i64 0, .int .i64 (m : Int), .int .i64 (o : Int), .int .i64 0, .int .i64 0, .int .i64 0, .int .i64 0, .int .i64 0, .int .i64 0, .int .i64 0, .int .i64 0, .int .i64 0, .int .i64 0, .int .i64 0, .int .i64 0, .int .i64 0, .int .i64 0, .int .i64 0, .slice none 0 0, .slice none 0 0], .int .i64 (r : Int)] w' fun e w'' => Gw w'' e (hc m o (r : Int) / Nat.gcd (hc m o (r : Int)) Z) (Z / Nat.gcd (hc m o (r : Int)) Z) 0 ∧ Below w'.heap.size w' w'') := Lib.hid fun r hr w' => by
    have h1 : hc m o (r : Int) ≤ Z := by have := HT.out (r + 1) (by omega); rw [s2] at this; omega
    exact (hits_choose w' (m := m) (o := o) (h := (r : Int)) (by omega) (by omega) (by omega) (by omega) rfl hZ).mono fun e w'' ⟨k1, k2⟩ => ⟨Gw.res k1 (l64' rfl (Nat.lt_of_le_of_lt h1 HZ.out.1)) (l64' rfl HZ.out.1), k2⟩
  have HAE : Hid (∀ (r : Nat), r ≤ m → ∀ {w' : World} {D0 D1 D2 D3 : Option Addr} {n0 n1 n2 n3 c0 c1 c2 c3 : Nat}, n0 = L32 (s2 m o r / Nat.gcd (s2 m o r) Z) → n1 = L32 (Z / Nat.gcd (s2 m o r) Z) → n2 = L32 (hc m o (r : Int) / Nat.gcd (hc m o (r : Int)) Z) → n3 = L32 (Z / Nat.gcd (hc m o (r : Int)) Z) → Cells w' D0 n0 (Lm (d32 (s2 m o r / Nat.gcd (s2 m o r) Z))) → Cells w' D1 n1 (Lm (d32 (Z / Nat.gcd (s2 m o r) Z))) → Cells w' D2 n2 (Lm (d32 (hc m o (r : Int) / Nat.gcd (hc m o (r : Int)) Z))) → Cells w' D3 n3 (Lm (d32 (Z / Nat.gcd (hc m o (r : Int)) Z))) →
      Calls Try.prog 18 #[.agg #[.slice D0 n0 c0, .slice D1 n1 c1], .agg #[.slice D2 n2 c2, .slice D3 n3 c3]] w' fun e w'' => Res w'.heap.size w'' e (s2 m o (r + 1) / Nat.gcd (s2 m o (r + 1)) Z) (Z / Nat.gcd (s2 m o (r + 1)) Z) ∧ Below w'.heap.size w' w'') := Lib.hid fun r hr w' D0 D1 D2 D3 n0 n1 n2 n3 c0 c1 c2 c3 e0 e1 e2 e3 h0 h1 h2 h3 => by
    have h1' : hc m o (r : Int) ≤ Z := by have := HT.out (r + 1) (by omega); rw [s2] at this; omega
    exact add_res HZ.out.2 (Nat.lt_of_le_of_lt (HT.out r (by omega)) HZ.out.1) (Nat.lt_of_le_of_lt h1' HZ.out.1) HZ.out.1 rfl rfl rfl rfl rfl rfl e0 e1 e2 e3 h0 h1 h2 h3
  -- Tail
  have HX := Lib.hid (show x < 13 ∧ k < x + 2 ∧ i < 17 ∧ j < 17 ∧ k2 < x + 2 ∧ j = 16 - i ∧ k2 = x + 1 - k from ⟨hx13, by omega, hi17, by omega, by omega, hj, hk2⟩)
  have HB := Lib.hid (show xy ≤ 24 ∧ m ≤ 10 from ⟨by omega, by omega⟩)
  have HO1 : Hid (∀ w', Calls Try.prog 28 #[.int .i64 1, .int .i64 1] w' fun e w'' => Res w'.heap.size w'' e 1 1 ∧ Below w'.heap.size w' w'') := Lib.hid fun w' => gw_of w' (x := 1) (y := 1) (by omega) (by omega) (by omega) (by decide) (by decide)
  have HO0 : Hid (∀ w', Calls Try.prog 28 #[.int .i64 0, .int .i64 1] w' fun e w'' => Res w'.heap.size w'' e 0 1 ∧ Below w'.heap.size w' w'') := Lib.hid fun w' => gw_of w' (x := 0) (y := 1) (by omega) (by omega) (by omega) (by decide) (by decide)
  have HOI : Hid (∀ w', Calls Try.prog 28 #[.int .i64 (i : Int), .int .i64 16] w' fun e w'' => Res w'.heap.size w'' e (xa i) (xd i) ∧ Below w'.heap.size w' w'') := Lib.hid fun w' => gw_of w' (x := i) (y := 16) (by omega) (by omega) (by omega) rfl rfl
  have HOJ : Hid (∀ w', Calls Try.prog 28 #[.int .i64 (j : Int), .int .i64 16] w' fun e w'' => Res w'.heap.size w'' e (xa j) (xd j) ∧ Below w'.heap.size w' w'') := Lib.hid fun w' => gw_of w' (x := j) (y := 16) (by omega) (by omega) (by omega) rfl rfl
  clear ho hj hx2 hk2 hxy hdk hC hZ hbv hx13 hy13 hm11 hd71 hi17 hkx
  have BS0 := Lib.hid (Bs.nil W)
  go_enter Try.func9, Try.ntmps9
  go_wp2_with fail
  (with_reducible refine (HO1.out _).mono ?_)
  rintro e w1 ⟨hr, hb⟩
  obtain ⟨D1, l1, y1, E1, m1, k1, rfl, L1, M1, hc, hd, _, _⟩ := res_out hr
  have BQ := Lib.hid (BS0.out.on hb)
  have BS1 := Lib.hid (BQ.out.alloc TF #[.slice D1 l1 y1, .slice E1 m1 k1])
  have X1 := Lib.hid (hc.alloc (.cells #[.slice D1 l1 y1, .slice E1 m1 k1] TF))
  have Y1 := Lib.hid (hd.alloc (.cells #[.slice D1 l1 y1, .slice E1 m1 k1] TF))
  have OX1 := Lib.hid hc
  have OY1 := Lib.hid hd
  clear hb hc hd hr BS0 BQ
  go_wp2_with fail
  (with_reducible refine (HO0.out _).mono ?_)
  rintro e w2 ⟨hr, hb⟩
  obtain ⟨D2, l2, y2, E2, m2, k2', rfl, L2, M2, hc, hd, _, _⟩ := res_out hr
  have bs2 := (BS1.out.on hb).alloc TF #[.slice D2 l2 y2, .slice E2 m2 k2']
  have C2 := Lib.hid (hc.alloc (.cells #[.slice D2 l2 y2, .slice E2 m2 k2'] TF))
  have E2' := Lib.hid (hd.alloc (.cells #[.slice D2 l2 y2, .slice E2 m2 k2'] TF))
  replace X1 := Lib.hid ((X1.out.below hb).alloc (.cells #[.slice D2 l2 y2, .slice E2 m2 k2'] TF))
  replace Y1 := Lib.hid ((Y1.out.below hb).alloc (.cells #[.slice D2 l2 y2, .slice E2 m2 k2'] TF))
  obtain ⟨ob, hob⟩ : ∃ b, b = w1.heap.size := ⟨_, rfl⟩
  obtain ⟨sb, hsb⟩ : ∃ b, b = w2.heap.size := ⟨_, rfl⟩
  have hos : ob < sb := by have := ((BS1.out.on hb).get (.head _)).2.1; omega
  have OFX : Hid (Off sb D1 l1) := Lib.hid (Off.of_cells ((OX1.out.alloc (.cells #[.slice D1 l1 y1, .slice E1 m1 k1] TF)).below hb) (by omega))
  have OFY : Hid (Off sb E1 m1) := Lib.hid (Off.of_cells ((OY1.out.alloc (.cells #[.slice D1 l1 y1, .slice E1 m1 k1] TF)).below hb) (by omega))
  obtain ⟨wa, hwa⟩ : ∃ wa, wa = w2.alloc (.cells #[.slice D2 l2 y2, .slice E2 m2 k2'] TF) := ⟨_, rfl⟩
  rw [← hwa] at bs2 C2 E2' X1 Y1
  rw [← hob, ← hsb] at bs2
  have BSa := Lib.hid bs2
  have hsW : Hid (W.heap.size ≤ sb) := Lib.hid (bs2.get (.head _)).1
  clear hb hc hd hr BS1 bs2 OX1 OY1
  go_wp2
  change Code.wp _ _ _ _ (w2.alloc (.cells #[.slice D2 l2 y2, .slice E2 m2 k2'] TF))
  rw [← hwa]
  rw [show (Value.pointer (some ⟨w2.heap.size, 0, none⟩)) = .pointer (some ⟨sb, 0, none⟩) by rw [hsb], show (Value.pointer (some ⟨w1.heap.size, 0, none⟩)) = .pointer (some ⟨ob, 0, none⟩) by rw [hob]]
  clear hwa hob hsb
  go_loopw [13] (fun s13 wr => ∃ (r : Nat) (D : Option Addr) (l c : Nat) (E : Option Addr) (m' c' : Nat), r ≤ xy + 1 ∧ s13 = .int .i64 (r : Int) ∧ Hid (l = L32 (s1 x y r / Nat.gcd (s1 x y r) C)) ∧ Hid (m' = L32 (C / Nat.gcd (s1 x y r) C)) ∧ Hid (Cells wr D l (Lm (d32 (s1 x y r / Nat.gcd (s1 x y r) C)))) ∧ Hid (Cells wr E m' (Lm (d32 (C / Nat.gcd (s1 x y r) C)))) ∧ Hid (Cells wr D1 l1 (Lm (d32 1))) ∧ Hid (Cells wr E1 m1 (Lm (d32 1))) ∧ Hid (Bs W wr [(sb, TF, #[.slice D l c, .slice E m' c']), (ob, TF, #[.slice D1 l1 y1, .slice E1 m1 k1])])) (fun i _ => (xy + 1) - (intOf i).toNat)
  case atStart => exact ⟨0, D2, l2, y2, E2, m2, k2', Nat.zero_le _, rfl, Lib.hid (by rw [s1, (zz HC.out.2).1]; exact L2.out), Lib.hid (by rw [s1, (zz HC.out.2).2.1]; exact M2.out), Lib.hid (by rw [s1, (zz HC.out.2).1]; exact C2.out), Lib.hid (by rw [s1, (zz HC.out.2).2.1]; exact E2'.out), X1, Y1, BSa⟩
  case round =>
    obtain ⟨r, D, l, c, E, m', c', hr, rfl, HL, HM, HD, HE, HX1, HY1, HBS⟩ := hrel
    by_cases hrn : r ≤ xy
    · have gr : ((r : Int) ≤ (xy : Int)) := by omega
      have hw5 : IntKind.i64.wrap ((r : Int) + 1) = (r : Int) + 1 := IntWalk.i64_in _ (by have := HB.out.1; omega)
      have HRN := Lib.hid hrn
      clear hr hrn
      go_wp2_with fail
      (with_reducible refine (HRU.out r HRN.out _).mono ?_)
      rintro e w3 ⟨⟨D3, l3, y3, E3, m3, k3, rfl, _, _, hl, hm, hc, hd⟩, hb⟩
      have BQ3 := Lib.hid (HBS.out.on hb)
      have BS3 := Lib.hid (BQ3.out.alloc TF #[.slice D3 l3 y3, .slice E3 m3 k3])
      have X3 := Lib.hid (hc.alloc (.cells #[.slice D3 l3 y3, .slice E3 m3 k3] TF))
      have Y3 := Lib.hid (hd.alloc (.cells #[.slice D3 l3 y3, .slice E3 m3 k3] TF))
      have L3 := Lib.hid hl
      have M3 := Lib.hid hm
      replace HD := Lib.hid ((HD.out.below hb).alloc (.cells #[.slice D3 l3 y3, .slice E3 m3 k3] TF))
      replace HE := Lib.hid ((HE.out.below hb).alloc (.cells #[.slice D3 l3 y3, .slice E3 m3 k3] TF))
      replace HX1 := Lib.hid ((HX1.out.below hb).alloc (.cells #[.slice D3 l3 y3, .slice E3 m3 k3] TF))
      replace HY1 := Lib.hid ((HY1.out.below hb).alloc (.cells #[.slice D3 l3 y3, .slice E3 m3 k3] TF))
      clear hb hl hm hc hd HBS
      obtain ⟨_, ls, ks⟩ := BQ3.out.get (.head _)
      have q0 : w3.cell? ⟨sb, 0, none⟩ = some (.slice D l c) := ks.cell 0
      have q1 : w3.cell? ⟨sb, 1, none⟩ = some (.slice E m' c') := ks.cell 1
      clear ks BQ3
      go_wp2_with fail
      refine (HAD.out r HRN.out HL.out HM.out L3.out M3.out HD.out HE.out X3.out Y3.out).mono ?_
      rintro e w4 ⟨hr, hb⟩
      obtain ⟨D4, l4, y4, E4, m4, k4, rfl, L4, M4, hc, hd, hf, hg⟩ := res_out hr
      have BQ4 := Lib.hid (BS3.out.on hb)
      have HSB := Lib.hid (BS3.out.get (.tail _ (.head _))).2.1
      have HF := Lib.hid hf
      have HG := Lib.hid hg
      have X4 := Lib.hid hc
      have Y4 := Lib.hid hd
      replace HX1 := Lib.hid (HX1.out.below hb)
      replace HY1 := Lib.hid (HY1.out.below hb)
      clear hb hc hd hf hg hr q0 q1 ls BS3 HD HE X3 Y3
      obtain ⟨_, ls, ks⟩ := BQ4.out.get (.tail _ (.head _))
      have q0 : w4.cell? ⟨sb, 0, none⟩ = some (.slice D l c) := ks.cell 0
      have q1 : w4.cell? ⟨sb, 1, none⟩ = some (.slice E m' c') := ks.cell 1
      have f0 : w4.frozen? ⟨sb, 0, none⟩ = false := ks.frozen 0
      have f1 : w4.frozen? ⟨sb, 1, none⟩ = false := ks.frozen 1
      have nsb : w4.heap.size ≠ sb := by omega
      clear ks
      go_wp2
      go_roundw
      case rel =>
        refine ⟨r + 1, D4, l4, y4, E4, m4, k4, by have := HRN.out; omega, by go_num, L4, M4, ?_, ?_, ?_, ?_, ?_⟩
        · exact Lib.hid (((X4.out.set_ HF.out HSB.out 0 _).set_ HF.out HSB.out 1 _).alloc _)
        · exact Lib.hid (((Y4.out.set_ HG.out HSB.out 0 _).set_ HG.out HSB.out 1 _).alloc _)
        · exact Lib.hid (((HX1.out.off OFX.out 0 _).off OFX.out 1 _).alloc _)
        · exact Lib.hid (((HY1.out.off OFY.out 0 _).off OFY.out 1 _).alloc _)
        · refine Lib.hid (((Bs.put (cs := #[.slice D4 l4 y4, .slice E m' c']) (Bs.put (cs := #[.slice D l c, .slice E m' c']) (BQ4.out.sub fun x hx => .tail _ hx) ?_ 0 _) ?_ 1 _).alloc _ _).sub fun x hx => .tail _ hx)
          all_goals
            intro b' t' cs' hb
            simp at hb
            omega
      case measure => have := HRN.out; simp [intOf] <;> omega
    · obtain rfl : r = xy + 1 := by omega
      have gr : (((xy + 1 : Nat) : Int) ≤ (xy : Int)) = False := eq_false (by omega)
      have gr2 : ((xy : Int) + 1 ≤ (xy : Int)) = False := eq_false (by omega)
      rw [HSA.out, (zz HC.out.2).2.2] at HL HM HD HE
      clear X1 Y1 C2 E2' BSa hr hrn L2 M2
      have hl : l ≤ 1000 := by rw [HL.out]; have := one_len; omega
      have hm : m' ≤ 1000 := by rw [HM.out]; have := one_len; omega
      have hl1 : l1 ≤ 1000 := by rw [L1.out]; have := one_len; omega
      have hm1 : m1 ≤ 1000 := by rw [M1.out]; have := one_len; omega
      obtain ⟨_, ls, ks⟩ := HBS.out.get (.head _)
      obtain ⟨_, lo, ko⟩ := HBS.out.get (.tail _ (.head _))
      have q0 : wr.cell? ⟨sb, 0, none⟩ = some (.slice D l c) := ks.cell 0
      have q1 : wr.cell? ⟨sb, 1, none⟩ = some (.slice E m' c') := ks.cell 1
      have p0 : wr.cell? ⟨ob, 0, none⟩ = some (.slice D1 l1 y1) := ko.cell 0
      have p1 : wr.cell? ⟨ob, 1, none⟩ = some (.slice E1 m1 k1) := ko.cell 1
      clear ks ko
      go_wp2_with fail
      refine (same_eq hl hm hl1 hm1 HL.out HM.out L1.out M1.out HD.out HE.out HX1.out HY1.out).mono ?_
      rintro e w5 ⟨rfl, hb⟩
      have bs5 := (HBS.out.on hb).alloc TG #[.string ⟨#[]⟩, .int .i64 1, .int .i64 0, .int .i64 (m : Int), .int .i64 (o : Int), .int .i64 0, .int .i64 0, .int .i64 0, .int .i64 0, .int .i64 0, .int .i64 0, .int .i64 0, .int .i64 0, .int .i64 0, .int .i64 0, .int .i64 0, .int .i64 0, .int .i64 0, .int .i64 0, .int .i64 0, .slice none 0 0, .slice none 0 0]
      replace HX1 := Lib.hid ((HX1.out.below hb).alloc (.cells #[.string ⟨#[]⟩, .int .i64 1, .int .i64 0, .int .i64 (m : Int), .int .i64 (o : Int), .int .i64 0, .int .i64 0, .int .i64 0, .int .i64 0, .int .i64 0, .int .i64 0, .int .i64 0, .int .i64 0, .int .i64 0, .int .i64 0, .int .i64 0, .int .i64 0, .int .i64 0, .int .i64 0, .int .i64 0, .slice none 0 0, .slice none 0 0] TG))
      replace HY1 := Lib.hid ((HY1.out.below hb).alloc (.cells #[.string ⟨#[]⟩, .int .i64 1, .int .i64 0, .int .i64 (m : Int), .int .i64 (o : Int), .int .i64 0, .int .i64 0, .int .i64 0, .int .i64 0, .int .i64 0, .int .i64 0, .int .i64 0, .int .i64 0, .int .i64 0, .int .i64 0, .int .i64 0, .int .i64 0, .int .i64 0, .int .i64 0, .int .i64 0, .slice none 0 0, .slice none 0 0] TG))
      obtain ⟨gb, hgb⟩ : ∃ b, b = w5.heap.size := ⟨_, rfl⟩
      have hgs : sb < gb := by have := ((HBS.out.on hb).get (.head _)).2.1; omega
      obtain ⟨wb, hwb⟩ : ∃ wb, wb = w5.alloc (.cells #[.string ⟨#[]⟩, .int .i64 1, .int .i64 0, .int .i64 (m : Int), .int .i64 (o : Int), .int .i64 0, .int .i64 0, .int .i64 0, .int .i64 0, .int .i64 0, .int .i64 0, .int .i64 0, .int .i64 0, .int .i64 0, .int .i64 0, .int .i64 0, .int .i64 0, .int .i64 0, .int .i64 0, .int .i64 0, .slice none 0 0, .slice none 0 0] TG) := ⟨_, rfl⟩
      rw [← hwb] at bs5 HX1 HY1
      rw [← hgb] at bs5
      have BS5 := Lib.hid (bs5.sub (l' := [(sb, TF, #[.slice D l c, .slice E m' c']), (gb, TG, #[.string ⟨#[]⟩, .int .i64 1, .int .i64 0, .int .i64 (m : Int), .int .i64 (o : Int), .int .i64 0, .int .i64 0, .int .i64 0, .int .i64 0, .int .i64 0, .int .i64 0, .int .i64 0, .int .i64 0, .int .i64 0, .int .i64 0, .int .i64 0, .int .i64 0, .int .i64 0, .int .i64 0, .int .i64 0, .slice none 0 0, .slice none 0 0]), (ob, TF, #[.slice D1 l1 y1, .slice E1 m1 k1])]) (fun x hx => by
        simp only [List.mem_cons, List.not_mem_nil, or_false] at hx ⊢
        rcases hx with h | h | h <;> simp [h]))
      clear hb q0 q1 p0 p1 ls lo hl hm HL HM HD HE bs5 HBS
      go_upto_region 15 with (refine wpList_store_row rfl TG _ _ rfl w5.heap.size #[.string ⟨#[]⟩, .int .i64 1, .int .i64 0, .int .i64 (m : Int), .int .i64 (o : Int), .int .i64 0, .int .i64 0, .int .i64 0, .int .i64 0, .int .i64 0, .int .i64 0, .int .i64 0, .int .i64 0, .int .i64 0, .int .i64 0, .int .i64 0, .int .i64 0, .int .i64 0, .int .i64 0, .int .i64 0, .slice none 0 0, .slice none 0 0] rfl rfl TG #[.string ⟨#[]⟩, .int .i64 0, .int .i64 0, .int .i64 0, .int .i64 0, .int .i64 0, .int .i64 0, .int .i64 0, .int .i64 0, .int .i64 0, .int .i64 0, .int .i64 0, .int .i64 0, .int .i64 0, .int .i64 0, .int .i64 0, .int .i64 0, .int .i64 0, .int .i64 0, .int .i64 0, .slice none 0 0, .slice none 0 0] (heap_alloc_last w5 _) (by kernel_rfl) rfl (by kernel_rfl) ?_; rw [World.setRow_alloc_new])
      change Code.wp _ _ _ _ (w5.alloc (.cells #[.string ⟨#[]⟩, .int .i64 1, .int .i64 0, .int .i64 (m : Int), .int .i64 (o : Int), .int .i64 0, .int .i64 0, .int .i64 0, .int .i64 0, .int .i64 0, .int .i64 0, .int .i64 0, .int .i64 0, .int .i64 0, .int .i64 0, .int .i64 0, .int .i64 0, .int .i64 0, .int .i64 0, .int .i64 0, .slice none 0 0, .slice none 0 0] TG))
      rw [← hwb]
      rw [show (Value.pointer (some ⟨w5.heap.size, 0, none⟩)) = .pointer (some ⟨gb, 0, none⟩) by rw [hgb]]
      clear hwb hgb
      go_wp2_with fail
      (with_reducible refine (HO0.out _).mono ?_)
      rintro e w6 ⟨hr, hb⟩
      obtain ⟨D5, l5, y5, E5, m5, k5, rfl, L5, M5, hc, hd, hf, hg⟩ := res_out hr
      have bq6 := BS5.out.on hb
      have hsb5 := (BS5.out.get (.head _)).2.1
      have C5 := Lib.hid ((hc.set_ hf hsb5 0 (.slice D5 l5 y5)).set_ hf hsb5 1 (.slice E5 m5 k5))
      have E5' := Lib.hid ((hd.set_ hg hsb5 0 (.slice D5 l5 y5)).set_ hg hsb5 1 (.slice E5 m5 k5))
      replace HX1 := Lib.hid (((HX1.out.below hb).off OFX.out 0 (.slice D5 l5 y5)).off OFX.out 1 (.slice E5 m5 k5))
      replace HY1 := Lib.hid (((HY1.out.below hb).off OFY.out 0 (.slice D5 l5 y5)).off OFY.out 1 (.slice E5 m5 k5))
      have BSc := Lib.hid (Bs.put (cs := #[.slice D5 l5 y5, .slice E m' c']) (Bs.put (cs := #[.slice D l c, .slice E m' c']) bq6 (by
        intro b' t' cs' hb
        simp at hb
        omega) 0 (.slice D5 l5 y5)) (by
        intro b' t' cs' hb
        simp at hb
        omega) 1 (.slice E5 m5 k5))
      obtain ⟨_, ls, ks⟩ := bq6.get (.head _)
      have q0 : w6.cell? ⟨sb, 0, none⟩ = some (.slice D l c) := ks.cell 0
      have q1 : w6.cell? ⟨sb, 1, none⟩ = some (.slice E m' c') := ks.cell 1
      have f0 : w6.frozen? ⟨sb, 0, none⟩ = false := ks.frozen 0
      have f1 : w6.frozen? ⟨sb, 1, none⟩ = false := ks.frozen 1
      clear ks hb hr hc hd hf hg bq6 hsb5 BS5
      go_wp2
      clear q0 q1 f0 f1 ls
      go_loopw [19] (fun s19 wr => ∃ (r : Nat) (D : Option Addr) (l c : Nat) (E : Option Addr) (m' c' : Nat), r ≤ m + 1 ∧ s19 = .int .i64 (r : Int) ∧ Hid (l = L32 (s2 m o r / Nat.gcd (s2 m o r) Z)) ∧ Hid (m' = L32 (Z / Nat.gcd (s2 m o r) Z)) ∧ Hid (Cells wr D l (Lm (d32 (s2 m o r / Nat.gcd (s2 m o r) Z)))) ∧ Hid (Cells wr E m' (Lm (d32 (Z / Nat.gcd (s2 m o r) Z)))) ∧ Hid (Cells wr D1 l1 (Lm (d32 1))) ∧ Hid (Cells wr E1 m1 (Lm (d32 1))) ∧ Hid (Bs W wr [(sb, TF, #[.slice D l c, .slice E m' c']), (gb, TG, #[.string ⟨#[]⟩, .int .i64 1, .int .i64 0, .int .i64 (m : Int), .int .i64 (o : Int), .int .i64 0, .int .i64 0, .int .i64 0, .int .i64 0, .int .i64 0, .int .i64 0, .int .i64 0, .int .i64 0, .int .i64 0, .int .i64 0, .int .i64 0, .int .i64 0, .int .i64 0, .int .i64 0, .int .i64 0, .slice none 0 0, .slice none 0 0]), (ob, TF, #[.slice D1 l1 y1, .slice E1 m1 k1])])) (fun i _ => (m + 1) - (intOf i).toNat)
      case atStart => exact ⟨0, D5, l5, y5, E5, m5, k5, Nat.zero_le _, rfl, Lib.hid (by rw [s2, (zz HZ.out.2).1]; exact L5.out), Lib.hid (by rw [s2, (zz HZ.out.2).2.1]; exact M5.out), Lib.hid (by rw [s2, (zz HZ.out.2).1]; exact C5.out), Lib.hid (by rw [s2, (zz HZ.out.2).2.1]; exact E5'.out), HX1, HY1, BSc⟩
      case round =>
        obtain ⟨r, D, l, c, E, m', c', hr, rfl, HL, HM, HD, HE, HX1, HY1, HBS⟩ := hrel
        by_cases hrn : r ≤ m
        · have gr : ((r : Int) ≤ (m : Int)) := by omega
          have hw5 : IntKind.i64.wrap ((r : Int) + 1) = (r : Int) + 1 := IntWalk.i64_in _ (by have := HB.out.2; omega)
          have HRN := Lib.hid hrn
          have KG := Lib.hid (show wr.heap[gb]? = some (.cells #[.string ⟨#[]⟩, .int .i64 1, .int .i64 0, .int .i64 (m : Int), .int .i64 (o : Int), .int .i64 0, .int .i64 0, .int .i64 0, .int .i64 0, .int .i64 0, .int .i64 0, .int .i64 0, .int .i64 0, .int .i64 0, .int .i64 0, .int .i64 0, .int .i64 0, .int .i64 0, .int .i64 0, .int .i64 0, .slice none 0 0, .slice none 0 0] TG (0, 0)) from (HBS.out.get (.tail _ (.head _))).2.2)
          obtain ⟨_, lgm, kgm⟩ := HBS.out.get (.tail _ (.head _))
          have qm : wr.cell? ⟨gb, 3, none⟩ = some (.int .i64 (m : Int)) := kgm.cell 3
          clear kgm
          clear hr hrn
          go_wp2_with (refine wpList_load_row rfl TG _ rfl gb rfl TG _ (0, 0) _ KG.out Try.underlying50 rfl (by kernel_rfl) ?_)
          (with_reducible refine (HHI.out r HRN.out _).mono ?_)
          rintro e w3 ⟨⟨D3, l3, y3, E3, m3, k3, rfl, _, _, hl, hm, hc, hd⟩, hb⟩
          have BQ3 := Lib.hid (HBS.out.on hb)
          have BS3 := Lib.hid (BQ3.out.alloc TF #[.slice D3 l3 y3, .slice E3 m3 k3])
          have X3 := Lib.hid (hc.alloc (.cells #[.slice D3 l3 y3, .slice E3 m3 k3] TF))
          have Y3 := Lib.hid (hd.alloc (.cells #[.slice D3 l3 y3, .slice E3 m3 k3] TF))
          have L3 := Lib.hid hl
          have M3 := Lib.hid hm
          replace HD := Lib.hid ((HD.out.below hb).alloc (.cells #[.slice D3 l3 y3, .slice E3 m3 k3] TF))
          replace HE := Lib.hid ((HE.out.below hb).alloc (.cells #[.slice D3 l3 y3, .slice E3 m3 k3] TF))
          replace HX1 := Lib.hid ((HX1.out.below hb).alloc (.cells #[.slice D3 l3 y3, .slice E3 m3 k3] TF))
          replace HY1 := Lib.hid ((HY1.out.below hb).alloc (.cells #[.slice D3 l3 y3, .slice E3 m3 k3] TF))
          clear hb hl hm hc hd HBS KG qm lgm
          obtain ⟨_, ls, ks⟩ := BQ3.out.get (.head _)
          have q0 : w3.cell? ⟨sb, 0, none⟩ = some (.slice D l c) := ks.cell 0
          have q1 : w3.cell? ⟨sb, 1, none⟩ = some (.slice E m' c') := ks.cell 1
          clear ks BQ3
          go_wp2_with fail
          refine (HAE.out r HRN.out HL.out HM.out L3.out M3.out HD.out HE.out X3.out Y3.out).mono ?_
          rintro e w4 ⟨hr, hb⟩
          obtain ⟨D4, l4, y4, E4, m4, k4, rfl, L4, M4, hc, hd, hf, hg⟩ := res_out hr
          have BQ4 := Lib.hid (BS3.out.on hb)
          have HSB := Lib.hid (BS3.out.get (.tail _ (.head _))).2.1
          have HF := Lib.hid hf
          have HG := Lib.hid hg
          have X4 := Lib.hid hc
          have Y4 := Lib.hid hd
          replace HX1 := Lib.hid (HX1.out.below hb)
          replace HY1 := Lib.hid (HY1.out.below hb)
          clear hb hc hd hf hg hr q0 q1 ls BS3 HD HE X3 Y3
          obtain ⟨_, ls, ks⟩ := BQ4.out.get (.tail _ (.head _))
          have q0 : w4.cell? ⟨sb, 0, none⟩ = some (.slice D l c) := ks.cell 0
          have q1 : w4.cell? ⟨sb, 1, none⟩ = some (.slice E m' c') := ks.cell 1
          have f0 : w4.frozen? ⟨sb, 0, none⟩ = false := ks.frozen 0
          have f1 : w4.frozen? ⟨sb, 1, none⟩ = false := ks.frozen 1
          have nsb : w4.heap.size ≠ sb := by omega
          clear ks
          go_wp2
          go_roundw
          case rel =>
            refine ⟨r + 1, D4, l4, y4, E4, m4, k4, by have := HRN.out; omega, by go_num, L4, M4, ?_, ?_, ?_, ?_, ?_⟩
            · exact Lib.hid (((X4.out.set_ HF.out HSB.out 0 _).set_ HF.out HSB.out 1 _).alloc _)
            · exact Lib.hid (((Y4.out.set_ HG.out HSB.out 0 _).set_ HG.out HSB.out 1 _).alloc _)
            · exact Lib.hid (((HX1.out.off OFX.out 0 _).off OFX.out 1 _).alloc _)
            · exact Lib.hid (((HY1.out.off OFY.out 0 _).off OFY.out 1 _).alloc _)
            · refine Lib.hid (((Bs.put (cs := #[.slice D4 l4 y4, .slice E m' c']) (Bs.put (cs := #[.slice D l c, .slice E m' c']) (BQ4.out.sub fun x hx => .tail _ hx) ?_ 0 _) ?_ 1 _).alloc _ _).sub fun x hx => .tail _ hx)
              all_goals
                intro b' t' cs' hb
                simp at hb
                omega
          case measure => have := HRN.out; simp [intOf] <;> omega
        · obtain rfl : r = m + 1 := by omega
          have gr2 : ((m : Int) + 1 ≤ (m : Int)) = False := eq_false (by omega)
          rw [HTA.out, (zz HZ.out.2).2.2] at HL HM HD HE
          clear hr hrn
          obtain ⟨_, lgm, kgm⟩ := HBS.out.get (.tail _ (.head _))
          have qm : wr.cell? ⟨gb, 3, none⟩ = some (.int .i64 (m : Int)) := kgm.cell 3
          clear kgm
          obtain ⟨pt, hpt⟩ : ∃ v, v = tN i x k / Nat.gcd (tN i x k) (tD i x k) := ⟨_, rfl⟩
          obtain ⟨qt, hqt⟩ : ∃ v, v = tD i x k / Nat.gcd (tN i x k) (tD i x k) := ⟨_, rfl⟩
          obtain ⟨pu, hpu⟩ : ∃ v, v = tN j x k2 / Nat.gcd (tN j x k2) (tD j x k2) := ⟨_, rfl⟩
          obtain ⟨qu, hqu⟩ : ∃ v, v = tD j x k2 / Nat.gcd (tN j x k2) (tD j x k2) := ⟨_, rfl⟩
          have HPT := Lib.hid hpt
          have HQT := Lib.hid hqt
          have HPU := Lib.hid hpu
          have HQU := Lib.hid hqu
          clear hpt hqt hpu hqu
          go_wp2_with fail
          (with_reducible refine (HOI.out _).mono ?_)
          rintro e w7 ⟨hr, hb⟩
          obtain ⟨D7, l7, y7, E7, m7, k7, rfl, L7, M7, hc, hd, _, _⟩ := res_out hr
          have BQ7 := Lib.hid (HBS.out.on hb)
          have BS7 := Lib.hid (BQ7.out.alloc TF #[.slice D7 l7 y7, .slice E7 m7 k7])
          have X7 := Lib.hid (hc.alloc (.cells #[.slice D7 l7 y7, .slice E7 m7 k7] TF))
          have Y7 := Lib.hid (hd.alloc (.cells #[.slice D7 l7 y7, .slice E7 m7 k7] TF))
          replace HD := Lib.hid ((HD.out.below hb).alloc (.cells #[.slice D7 l7 y7, .slice E7 m7 k7] TF))
          replace HE := Lib.hid ((HE.out.below hb).alloc (.cells #[.slice D7 l7 y7, .slice E7 m7 k7] TF))
          replace HX1 := Lib.hid ((HX1.out.below hb).alloc (.cells #[.slice D7 l7 y7, .slice E7 m7 k7] TF))
          replace HY1 := Lib.hid ((HY1.out.below hb).alloc (.cells #[.slice D7 l7 y7, .slice E7 m7 k7] TF))
          clear hb hc hd hr HBS
          clear qm lgm
          go_wp2_with fail
          (with_reducible refine (HOJ.out _).mono ?_)
          rintro e w8 ⟨hr, hb⟩
          obtain ⟨D8, l8, y8, E8, m8, k8, rfl, L8, M8, hc, hd, _, _⟩ := res_out hr
          have BQ8 := Lib.hid (BS7.out.on hb)
          have BS8 := Lib.hid (BQ8.out.alloc TF #[.slice D8 l8 y8, .slice E8 m8 k8])
          have X8 := Lib.hid (hc.alloc (.cells #[.slice D8 l8 y8, .slice E8 m8 k8] TF))
          have Y8 := Lib.hid (hd.alloc (.cells #[.slice D8 l8 y8, .slice E8 m8 k8] TF))
          replace HD := Lib.hid ((HD.out.below hb).alloc (.cells #[.slice D8 l8 y8, .slice E8 m8 k8] TF))
          replace HE := Lib.hid ((HE.out.below hb).alloc (.cells #[.slice D8 l8 y8, .slice E8 m8 k8] TF))
          replace HX1 := Lib.hid ((HX1.out.below hb).alloc (.cells #[.slice D8 l8 y8, .slice E8 m8 k8] TF))
          replace HY1 := Lib.hid ((HY1.out.below hb).alloc (.cells #[.slice D8 l8 y8, .slice E8 m8 k8] TF))
          replace X7 := Lib.hid ((X7.out.below hb).alloc (.cells #[.slice D8 l8 y8, .slice E8 m8 k8] TF))
          replace Y7 := Lib.hid ((Y7.out.below hb).alloc (.cells #[.slice D8 l8 y8, .slice E8 m8 k8] TF))
          clear hb hc hd hr BS7
          obtain ⟨_, laq0, ka⟩ := BQ8.out.get (.head _)
          have q0 : w8.cell? ⟨w7.heap.size, 0, none⟩ = some (.slice D7 l7 y7) := ka.cell 0
          have q1 : w8.cell? ⟨w7.heap.size, 1, none⟩ = some (.slice E7 m7 k7) := ka.cell 1
          clear ka
          go_wp2_with fail
          refine (tail_gw HX.out.2.2.1 HX.out.1 HX.out.2.1 L7.out M7.out X7.out Y7.out HPT.out HQT.out).mono ?_
          rintro e w9 ⟨⟨D9, l9, y9, E9, m9, k9, rfl, a9, b9, hl, hm, hc, hd⟩, hb⟩
          have L9 := Lib.hid hl
          have M9 := Lib.hid hm
          have BQ9 := Lib.hid (BS8.out.on hb)
          have BS9 := Lib.hid (BQ9.out.alloc TF #[.slice D9 l9 y9, .slice E9 m9 k9])
          have X9 := Lib.hid (hc.alloc (.cells #[.slice D9 l9 y9, .slice E9 m9 k9] TF))
          have Y9 := Lib.hid (hd.alloc (.cells #[.slice D9 l9 y9, .slice E9 m9 k9] TF))
          replace HD := Lib.hid ((HD.out.below hb).alloc (.cells #[.slice D9 l9 y9, .slice E9 m9 k9] TF))
          replace HE := Lib.hid ((HE.out.below hb).alloc (.cells #[.slice D9 l9 y9, .slice E9 m9 k9] TF))
          replace HX1 := Lib.hid ((HX1.out.below hb).alloc (.cells #[.slice D9 l9 y9, .slice E9 m9 k9] TF))
          replace HY1 := Lib.hid ((HY1.out.below hb).alloc (.cells #[.slice D9 l9 y9, .slice E9 m9 k9] TF))
          replace X8 := Lib.hid ((X8.out.below hb).alloc (.cells #[.slice D9 l9 y9, .slice E9 m9 k9] TF))
          replace Y8 := Lib.hid ((Y8.out.below hb).alloc (.cells #[.slice D9 l9 y9, .slice E9 m9 k9] TF))
          clear hb hc hd hl hm BS8
          clear q0 q1 laq0 X7 Y7 BQ8 BQ7
          obtain ⟨_, laq0, ka⟩ := BQ9.out.get (.head _)
          have q0 : w9.cell? ⟨w8.heap.size, 0, none⟩ = some (.slice D8 l8 y8) := ka.cell 0
          have q1 : w9.cell? ⟨w8.heap.size, 1, none⟩ = some (.slice E8 m8 k8) := ka.cell 1
          clear ka
          go_wp2_with fail
          refine (tail_gw HX.out.2.2.2.1 HX.out.1 HX.out.2.2.2.2.1 L8.out M8.out X8.out Y8.out HPU.out HQU.out).mono ?_
          rintro e wA ⟨⟨D10, l10, y10, E10, m10, k10, rfl, a10, b10, hl, hm, hc, hd⟩, hb⟩
          have L10 := Lib.hid hl
          have M10 := Lib.hid hm
          have BQ10 := Lib.hid (BS9.out.on hb)
          have BS10 := Lib.hid (BQ10.out.alloc TF #[.slice D10 l10 y10, .slice E10 m10 k10])
          have X10 := Lib.hid (hc.alloc (.cells #[.slice D10 l10 y10, .slice E10 m10 k10] TF))
          have Y10 := Lib.hid (hd.alloc (.cells #[.slice D10 l10 y10, .slice E10 m10 k10] TF))
          replace HD := Lib.hid ((HD.out.below hb).alloc (.cells #[.slice D10 l10 y10, .slice E10 m10 k10] TF))
          replace HE := Lib.hid ((HE.out.below hb).alloc (.cells #[.slice D10 l10 y10, .slice E10 m10 k10] TF))
          replace HX1 := Lib.hid ((HX1.out.below hb).alloc (.cells #[.slice D10 l10 y10, .slice E10 m10 k10] TF))
          replace HY1 := Lib.hid ((HY1.out.below hb).alloc (.cells #[.slice D10 l10 y10, .slice E10 m10 k10] TF))
          replace X9 := Lib.hid ((X9.out.below hb).alloc (.cells #[.slice D10 l10 y10, .slice E10 m10 k10] TF))
          replace Y9 := Lib.hid ((Y9.out.below hb).alloc (.cells #[.slice D10 l10 y10, .slice E10 m10 k10] TF))
          clear hb hc hd hl hm BS9
          clear q0 q1 laq0 X8 Y8 BQ9
          obtain ⟨_, laq0, ka⟩ := BQ10.out.get (.head _)
          have q0 : wA.cell? ⟨w9.heap.size, 0, none⟩ = some (.slice D9 l9 y9) := ka.cell 0
          have q1 : wA.cell? ⟨w9.heap.size, 1, none⟩ = some (.slice E9 m9 k9) := ka.cell 1
          clear ka
          have tt := t_all i HX.out.2.2.1 x HX.out.1 k HX.out.2.1
          rw [← HX.out.2.2.2.2.2.1, ← HX.out.2.2.2.2.2.2] at tt
          have t1 := t_small i HX.out.2.2.1 x HX.out.1 k HX.out.2.1
          have t2 := t_small j HX.out.2.2.2.1 x HX.out.1 k2 HX.out.2.2.2.2.1
          have HAO := Lib.hid (add_one (c0 := y9) (c1 := k9) (c2 := y10) (c3 := k10) t1.1 t2.1 t1.2.2 t1.2.1 t2.2.2 t2.2.1 HPT.out HQT.out HPU.out HQU.out tt L9.out M9.out L10.out M10.out X9.out Y9.out X10.out Y10.out)
          clear tt t1 t2
          go_wp2_with fail
          refine HAO.out.mono ?_
          rintro e wB ⟨hr, hb⟩
          obtain ⟨D11, l11, y11, E11, m11, k11, rfl, L11, M11, hc, hd, _, _⟩ := res_out hr
          have BQ11 := Lib.hid (BS10.out.on hb)
          have BS11 := Lib.hid (BQ11.out.alloc TF #[.slice D11 l11 y11, .slice E11 m11 k11])
          have X11 := Lib.hid (hc.alloc (.cells #[.slice D11 l11 y11, .slice E11 m11 k11] TF))
          have Y11 := Lib.hid (hd.alloc (.cells #[.slice D11 l11 y11, .slice E11 m11 k11] TF))
          replace HD := Lib.hid ((HD.out.below hb).alloc (.cells #[.slice D11 l11 y11, .slice E11 m11 k11] TF))
          replace HE := Lib.hid ((HE.out.below hb).alloc (.cells #[.slice D11 l11 y11, .slice E11 m11 k11] TF))
          replace HX1 := Lib.hid ((HX1.out.below hb).alloc (.cells #[.slice D11 l11 y11, .slice E11 m11 k11] TF))
          replace HY1 := Lib.hid ((HY1.out.below hb).alloc (.cells #[.slice D11 l11 y11, .slice E11 m11 k11] TF))
          clear hb hc hd hr BS10
          clear q0 q1 laq0 X9 Y9 X10 Y10 HAO BQ10
          obtain ⟨_, laq0, ka⟩ := BQ11.out.get (.tail _ (.tail _ (.tail _ (.tail _ (.head _)))))
          have q0 : wB.cell? ⟨sb, 0, none⟩ = some (.slice D l c) := ka.cell 0
          have q1 : wB.cell? ⟨sb, 1, none⟩ = some (.slice E m' c') := ka.cell 1
          clear ka
          obtain ⟨_, lap0, ka⟩ := BQ11.out.get (.tail _ (.tail _ (.tail _ (.tail _ (.tail _ (.tail _ (.head _)))))))
          have p0 : wB.cell? ⟨ob, 0, none⟩ = some (.slice D1 l1 y1) := ka.cell 0
          have p1 : wB.cell? ⟨ob, 1, none⟩ = some (.slice E1 m1 k1) := ka.cell 1
          clear ka
          have hl : l ≤ 1000 := by rw [HL.out]; have := one_len; omega
          have hm : m' ≤ 1000 := by rw [HM.out]; have := one_len; omega
          have h11 : l11 ≤ 1000 := by rw [L11.out]; have := one_len; omega
          have g11 : m11 ≤ 1000 := by rw [M11.out]; have := one_len; omega
          go_wp2_with fail
          refine (same_eq hl hm hl1 hm1 HL.out HM.out L1.out M1.out HD.out HE.out HX1.out HY1.out).mono ?_
          rintro e wC ⟨rfl, hb⟩
          have BSC := Lib.hid (BS11.out.on hb)
          replace HX1 := Lib.hid (HX1.out.below hb)
          replace HY1 := Lib.hid (HY1.out.below hb)
          replace X11 := Lib.hid (X11.out.below hb)
          replace Y11 := Lib.hid (Y11.out.below hb)
          clear hb q0 q1 p0 p1 laq0 lap0 BQ11 BS11 HD HE
          obtain ⟨_, laq0, ka⟩ := BSC.out.get (.head _)
          have q0 : wC.cell? ⟨wB.heap.size, 0, none⟩ = some (.slice D11 l11 y11) := ka.cell 0
          have q1 : wC.cell? ⟨wB.heap.size, 1, none⟩ = some (.slice E11 m11 k11) := ka.cell 1
          clear ka
          obtain ⟨_, lap0, ka⟩ := BSC.out.get (.tail _ (.tail _ (.tail _ (.tail _ (.tail _ (.tail _ (.tail _ (.head _))))))))
          have p0 : wC.cell? ⟨ob, 0, none⟩ = some (.slice D1 l1 y1) := ka.cell 0
          have p1 : wC.cell? ⟨ob, 1, none⟩ = some (.slice E1 m1 k1) := ka.cell 1
          clear ka
          go_wp2_with fail
          refine (same_eq h11 g11 hl1 hm1 L11.out M11.out L1.out M1.out X11.out Y11.out HX1.out HY1.out).mono ?_
          rintro e wD ⟨rfl, hb⟩
          have BSD := Lib.hid (BSC.out.on hb)
          clear hb q0 q1 p0 p1 laq0 lap0 BSC
          go_wp2_with fail
          refine (AW.out _).mono ?_
          rintro e wE ⟨rfl, hb⟩
          have HBE := Lib.hid (BSD.out.on hb).below
          clear hb
          go_wp2
          go_ret
          exact ⟨rfl, HBE.out⟩
theorem exact_law {W : World} {av bv iv : Nat} (hbv : bv ≤ 255) :
    Calls Try.prog 9 #[.int .u8 (av : Int), .int .u8 (bv : Int), .int .u8 (iv : Int)] W fun e w' => e = .returned (.bool true) ∧ Below W.heap.size W w' :=
  exact_main (x := av % 13) (y := bv % 13) (m := av % 11) (d := bv % 71) (i := iv % 17) (k := bv % (av % 13 + 2)) (Nat.mod_lt _ (by decide)) (Nat.mod_lt _ (by decide)) (Nat.mod_lt _ (by decide)) (Nat.mod_lt _ (by decide)) (Nat.mod_lt _ (by decide)) (Nat.mod_lt _ (Nat.succ_pos _)) rfl rfl rfl rfl rfl hbv rfl rfl rfl rfl rfl rfl
end Fa
theorem fairnessExact_walk (W : World) (a : Int) (wa : (Lit.int .u8 a).wf = true) (b : Int) (wb : (Lit.int .u8 b).wf = true) (i : Int) (wi : (Lit.int .u8 i).wf = true) :
    Calls Try.prog 9 #[.int .u8 a, .int .u8 b, .int .u8 i] W fun e w' => e = .returned (.bool true) ∧ Below W.heap.size W w' := by
  have h : ∀ {z : Int}, (Lit.int .u8 z).wf = true → 0 ≤ z ∧ z ≤ 255 := fun {z} h => by
    have h1 : IntKind.u8.min ≤ z ∧ z ≤ IntKind.u8.max := by simpa [Lit.wf] using h
    exact h1
  obtain ⟨a, rfl⟩ := Int.eq_ofNat_of_zero_le (h wa).1
  obtain ⟨b, rfl⟩ := Int.eq_ofNat_of_zero_le (h wb).1
  obtain ⟨i, rfl⟩ := Int.eq_ofNat_of_zero_le (h wi).1
  exact Fa.exact_law (by have := (h wb).2; omega)
end Go.Proofs.Ytiflmnmkmpjecaa
