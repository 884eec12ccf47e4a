/- Plain facts for FairnessExact: the chances of all numbers add up to the whole, in the law's ranges; and Tail of sixteenths. -/
import Derived.Test.YtiflmnmkmpjecaaFaScQ
import Derived.Test.YtiflmnmkmpjecaaFaTail2
import Derived.Test.YtiflmnmkmpjecaaFaTailP
import Derived.Test.YtiflmnmkmpjecaaG5
set_option linter.unusedVariables false
namespace Go.Proofs.Ytiflmnmkmpjecaa
open Go.RowKit
namespace Fa
open Fr
/-- The sums of the chances of the first numbers of runs, and of hits. -/
def s1 (x y : Nat) : Nat → Nat
  | 0 => 0
  | k + 1 => s1 x y k + rc x y (k : Int)
def s2 (m o : Nat) : Nat → Nat
  | 0 => 0
  | k + 1 => s2 m o k + hc m o (k : Int)
set_option maxRecDepth 100000 in
theorem s1_all : ∀ x, x < 13 → ∀ y, y < 13 → s1 x y (x + y + 1) = cb (x + y) x := by decide +kernel
set_option maxRecDepth 100000 in
theorem s2_all : ∀ m, m < 11 → ∀ d, d < 71 → s2 m (m + d) (m + 1) = cb (m + d) m := by decide +kernel
theorem s1_mono (x y : Nat) {j : Nat} : ∀ k, s1 x y j ≤ s1 x y (j + k)
  | 0 => Nat.le_refl _
  | k + 1 => Nat.le_trans (s1_mono x y k) (by rw [← Nat.add_assoc, s1]; omega)
theorem s2_mono (m o : Nat) {j : Nat} : ∀ k, s2 m o j ≤ s2 m o (j + k)
  | 0 => Nat.le_refl _
  | k + 1 => Nat.le_trans (s2_mono m o k) (by rw [← Nat.add_assoc, s2]; omega)
theorem s1_le {x y k : Nat} (hx : x < 13) (hy : y < 13) (hk : k ≤ x + y + 1) : s1 x y k ≤ cb (x + y) x := by
  rw [← s1_all x hx y hy]
  obtain ⟨j, hj⟩ : ∃ j, x + y + 1 = k + j := ⟨x + y + 1 - k, by omega⟩
  rw [hj]
  exact s1_mono x y j
theorem s2_le {m d k : Nat} (hm : m < 11) (hd : d < 71) (hk : k ≤ m + 1) : s2 m (m + d) k ≤ cb (m + d) m := by
  rw [← s2_all m hm d hd]
  obtain ⟨j, hj⟩ : ∃ j, m + 1 = k + j := ⟨m + 1 - k, by omega⟩
  rw [hj]
  exact s2_mono m (m + d) j
set_option maxRecDepth 100000 in
theorem cb_small1 : ∀ x, x < 13 → ∀ y, y < 13 → cb (x + y) x < 18446744073709551616 := by decide +kernel
set_option maxRecDepth 100000 in
theorem cb_small2 : ∀ m, m < 11 → ∀ d, d < 71 → cb (m + d) m < 18446744073709551616 := by decide +kernel
/-- Adding in lowest terms over one denominator. -/
theorem red_add {S u C : Nat} (hC : 0 < C) {p q r s : Nat} (hp : p = S / Nat.gcd S C) (hq : q = C / Nat.gcd S C) (hr : r = u / Nat.gcd u C) (hs : s = C / Nat.gcd u C) :
    (p * s + r * q) / Nat.gcd (p * s + r * q) (q * s) = (S + u) / Nat.gcd (S + u) C ∧ q * s / Nat.gcd (p * s + r * q) (q * s) = C / Nat.gcd (S + u) C := by
  have h1 : Rep p q S C := by rw [hp, hq]; exact Rep.red hC
  have h2 : Rep r s u C := by rw [hr, hs]; exact Rep.red hC
  refine red_eq (Nat.mul_pos h1.y0 h2.y0) hC ?_
  have e1 := h1.eq
  have e2 := h2.eq
  clear h1 h2 hp hq hr hs
  grind
theorem add_res {D0 D1 D2 D3 : Option Addr} {n0 n1 n2 n3 c0 c1 c2 c3 S u C p q r s p' q' : Nat} {w : World} (hC : 0 < C) (hS : S < 18446744073709551616) (hu : u < 18446744073709551616) (hC2 : C < 18446744073709551616) (hp : p = S / Nat.gcd S C) (hq : q = C / Nat.gcd S C) (hr : r = u / Nat.gcd u C) (hs : s = C / Nat.gcd u C) (hp' : p' = (S + u) / Nat.gcd (S + u) C) (hq' : q' = C / Nat.gcd (S + u) C)
    (h0 : n0 = L32 p) (h1 : n1 = L32 q) (h2 : n2 = L32 r) (h3 : n3 = L32 s) (hx0 : Cells w D0 n0 (Lm (d32 p))) (hx1 : Cells w D1 n1 (Lm (d32 q))) (hx2 : Cells w D2 n2 (Lm (d32 r))) (hx3 : Cells w D3 n3 (Lm (d32 s))) :
    Calls Try.prog 18 #[.agg #[.slice D0 n0 c0, .slice D1 n1 c1], .agg #[.slice D2 n2 c2, .slice D3 n3 c3]] w fun e w' => Res w.heap.size w' e p' q' ∧ Below w.heap.size w w' := by
  have f1 : Fit32 p 2 := fit_of (Nat.lt_of_le_of_lt (by rw [hp]; exact Nat.div_le_self _ _) hS)
  have f2 : Fit32 q 2 := fit_of (Nat.lt_of_le_of_lt (by rw [hq]; exact Nat.div_le_self _ _) hC2)
  have f3 : Fit32 r 2 := fit_of (Nat.lt_of_le_of_lt (by rw [hr]; exact Nat.div_le_self _ _) hu)
  have f4 : Fit32 s 2 := fit_of (Nat.lt_of_le_of_lt (by rw [hs]; exact Nat.div_le_self _ _) hC2)
  have g1 : Fit32 (p * s) 4 := fit32_mul f1 f4
  have g2 : Fit32 (r * q) 4 := fit32_mul f3 f2
  have g3 : Fit32 (q * s) 4 := fit32_mul f2 f4
  have g4 := fit_add g1 g2
  have k1 : fok p q = true := by rw [hp, hq]; exact fok_low hC
  have k2 : fok r s = true := by rw [hr, hs]; exact fok_low hC
  have e := red_add hC hp hq hr hs
  have H := radd_ok (c0 := c0) (c1 := c1) (c2 := c2) (c3 := c3) (by rw [h0]; exact Nat.le_trans (fit32_le f1) (by omega)) (by rw [h1]; exact Nat.le_trans (fit32_le f2) (by omega)) (by rw [h2]; exact Nat.le_trans (fit32_le f3) (by omega)) (by rw [h3]; exact Nat.le_trans (fit32_le f4) (by omega)) h0 h1 h2 h3 hx0 hx1 hx2 hx3 k1 k2
  rw [e.1, e.2, ← hp', ← hq'] at H
  exact H.mono fun e w' ⟨ho, hb⟩ => ⟨out_res ho ⟨Nat.le_trans (fit32_le g1) (by omega), Nat.le_trans (fit32_le g2) (by omega), Nat.le_trans (fit32_le g3) (by omega), Nat.le_trans (fit32_le g4) (by omega)⟩, hb⟩
/-- A sixteenth in lowest terms. -/
def xa (i : Nat) : Nat := i / Nat.gcd i 16
def xd (i : Nat) : Nat := 16 / Nat.gcd i 16
/-- What Tail gives for sixteenths. -/
def tN (i n k : Nat) : Nat := if k = 0 then 1 else if n < k then 0 else st n (xa i) (xd i - xa i) k (n - k + 1)
def tD (i n k : Nat) : Nat := if k = 0 ∨ n < k then 1 else xd i ^ n
set_option maxRecDepth 100000 in
theorem x_facts : ∀ i, i < 17 → xa i ≤ xd i ∧ 0 < xd i ∧ xd i ≤ 16 ∧ fok (xa i) (xd i) = true := by decide +kernel
set_option maxRecDepth 100000 in
theorem t_all : ∀ i, i < 17 → ∀ n, n < 13 → ∀ k, k < n + 2 → tN i n k * tD (16 - i) n (n + 1 - k) + tN (16 - i) n (n + 1 - k) * tD i n k = tD i n k * tD (16 - i) n (n + 1 - k) := by decide +kernel
set_option maxRecDepth 100000 in
theorem t_small : ∀ i, i < 17 → ∀ n, n < 13 → ∀ k, k < n + 2 → 0 < tD i n k ∧ tD i n k < 18446744073709551616 ∧ tN i n k < 18446744073709551616 := by decide +kernel
theorem l64 {x : Nat} (h : x < 18446744073709551616) : L32 x ≤ 64 := Nat.le_trans (fit32_le (fit_of h)) (by omega)
theorem tail_gw {W : World} {D E : Option Addr} {n0 n1 c0 c1 i n k p q : Nat} (hi : i < 17) (hn : n < 13) (hk : k < n + 2) (h0 : n0 = L32 (xa i)) (h1 : n1 = L32 (xd i)) (hx : Cells W D n0 (Lm (d32 (xa i)))) (hy : Cells W E n1 (Lm (d32 (xd i)))) (hp : p = tN i n k / Nat.gcd (tN i n k) (tD i n k)) (hq : q = tD i n k / Nat.gcd (tN i n k) (tD i n k)) :
    Calls Try.prog 20 #[.int .i64 (n : Int), .int .i64 (k : Int), .agg #[.slice D n0 c0, .slice E n1 c1]] W fun e w' => Gw w' e p q 0 ∧ Below W.heap.size W w' := by
  obtain ⟨had, hd0, hd16, hfk⟩ := x_facts i hi
  obtain ⟨t1, t2, t3⟩ := t_small i hi n hn k hk
  have la : L32 (xa i) ≤ 64 := l64 (by omega)
  have ld : L32 (xd i) ≤ 64 := l64 (by omega)
  have s0 : n0 ≤ 64 := by rw [h0]; exact la
  have s1 : n1 ≤ 64 := by rw [h1]; exact ld
  have lp : L32 p ≤ 64 := by rw [hp]; exact len_div (l64 t3)
  have lq : L32 q ≤ 64 := by rw [hq]; exact len_div (l64 t2)
  have KV : ∀ w', Below W.heap.size W w' → Calls Try.prog 48 #[.agg #[.slice D n0 c0, .slice E n1 c1]] w' fun e w'' => e = .returned (.bool true) ∧ Below w'.heap.size w' w'' := fun w' hw => by
    have := valid_any (c := c0) (c' := c1) s0 s1 h0 h1 (hx.below hw) (hy.below hw)
    rw [hfk] at this
    exact this
  have KC : ∀ w', Below W.heap.size W w' → Calls Try.prog 49 #[.agg #[.slice D n0 c0], .agg #[.slice E n1 c1]] w' fun e w'' => e = .returned (.int .i64 (cmpI (xa i) (xd i))) ∧ Below w'.heap.size w' w'' := fun w' hw => ncmp_any s0 s1 h0 h1 (hx.below hw) (hy.below hw)
  have hcc : cmpI (xa i) (xd i) ≤ 0 := by
    unfold cmpI
    by_cases h : xa i < xd i
    · rw [if_pos h]; decide
    · rw [if_neg h, if_neg (by omega)]; decide
  by_cases hk0 : k = 0
  · subst hk0
    have e1 : tN i n 0 = 1 := rfl
    have e2 : tD i n 0 = 1 := rfl
    rw [e1, e2] at hp hq
    exact (tail_one W (n := n) (k := ((0 : Nat) : Int)) (by omega) KV KC hcc (by omega) hp hq).mono fun e w' ⟨h, hb⟩ => ⟨Gw.res h lp lq, hb⟩
  · by_cases hkn : n < k
    · have e1 : tN i n k = 0 := by unfold tN; rw [if_neg hk0, if_pos hkn]
      have e2 : tD i n k = 1 := by unfold tD; rw [if_pos (.inr hkn)]
      rw [e1, e2] at hp hq
      exact (tail_none W (n := n) (k := (k : Int)) (by omega) KV KC hcc (by omega) (by omega) hp hq).mono fun e w' ⟨h, hb⟩ => ⟨Gw.res h lp lq, hb⟩
    · have e1 : tN i n k = st n (xa i) (xd i - xa i) k (n - k + 1) := by unfold tN; rw [if_neg hk0, if_neg hkn]
      have e2 : tD i n k = xd i ^ n := by unfold tD; rw [if_neg (by omega)]
      rw [e2] at t2
      have h64 : L32 (xd i ^ n) ≤ 64 := l64 t2
      rw [e1, e2] at hp hq
      have H := tail_in (c0 := c0) (c1 := c1) (n := n) (k := k) s0 s1 h0 h1 hx hy hfk had (by omega) (by omega) (by omega) h64 (p64 (pw_le had hd0 (Nat.le_refl n)) h64) (p64 (pw_le (Nat.sub_le _ _) hd0 (Nat.le_refl n)) h64) (tail_hT (by omega) had hd0 h64) (tail_hS (by omega) had (by omega) h64)
      rw [← hp, ← hq] at H
      exact H.mono fun e w' ⟨h, hb⟩ => ⟨Gw.res h lp lq, hb⟩
end Fa
end Go.Proofs.Ytiflmnmkmpjecaa
