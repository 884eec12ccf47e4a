/- Plain facts on the chi-square statistic: the program's sum and the reference's are one number. -/
import Derived.Test.YtiflmnmkmpjecaaFaRChi
import Derived.Test.YtiflmnmkmpjecaaG12
set_option linter.unusedVariables false
namespace Go.Proofs.Ytiflmnmkmpjecaa
open Go.RowKit
namespace Fa
open Fr
theorem dd_sq (u v : Nat) : (if u < v then v - u else u - v) * (if u < v then v - u else u - v) + 2 * u * v = u * u + v * v := by
  by_cases h : u < v
  · rw [if_pos h]
    obtain ⟨k, rfl⟩ : ∃ k, v = u + k := ⟨v - u, by omega⟩
    rw [Nat.add_sub_cancel_left]
    grind
  · rw [if_neg h]
    obtain ⟨k, rfl⟩ : ∃ k, u = v + k := ⟨u - v, by omega⟩
    rw [Nat.add_sub_cancel_left]
    grind
theorem sq_step {P B n W O Q A V o p d : Nat} (ih : P * B * n * W + 2 * O * Q * B * n * W = A * W * W * Q + n * n * V * Q * B) (hd : d * d + 2 * (o * W) * (n * p) = o * W * (o * W) + n * p * (n * p)) :
    (P * (n * p * W) + d * d * Q) * (B * p) * n * W + 2 * (O + o) * (Q * (n * p * W)) * (B * p) * n * W = (A * p + o * o * B) * W * W * (Q * (n * p * W)) + n * n * (V + p) * (Q * (n * p * W)) * (B * p) := by
  have h1 : (P * B * n * W + 2 * O * Q * B * n * W) * (p * (n * p * W)) = (A * W * W * Q + n * n * V * Q * B) * (p * (n * p * W)) := by rw [ih]
  have h2 : (d * d + 2 * (o * W) * (n * p)) * (Q * B * p * n * W) = (o * W * (o * W) + n * p * (n * p)) * (Q * B * p * n * W) := by rw [hd]
  clear ih hd
  grind
theorem sq_inv {o p : Nat → Nat} {n W : Nat} : ∀ k, (RN o p n W k).1 * (SN o p k).2 * n * W + 2 * nsum o k * (RN o p n W k).2 * (SN o p k).2 * n * W = (SN o p k).1 * W * W * (RN o p n W k).2 + n * n * nsum p k * (RN o p n W k).2 * (SN o p k).2
  | 0 => by simp [RN, SN, nsum]
  | k + 1 => by
    have hd : dd o p n W k * dd o p n W k + 2 * (o k * W) * (n * p k) = o k * W * (o k * W) + n * p k * (n * p k) := dd_sq _ _
    exact sq_step (sq_inv k) hd
/-- At the end: the two are one number. -/
theorem sq_end {o p : Nat → Nat} {n W k : Nat} (hn : nsum o k = n) (hW : nsum p k = W) (hW0 : 0 < W) :
    (RN o p n W k).1 * ((SN o p k).2 * n) + n * ((SN o p k).2 * n) * (RN o p n W k).2 = (SN o p k).1 * W * (RN o p n W k).2 := by
  have h := sq_inv (o := o) (p := p) (n := n) (W := W) k
  rw [hn, hW] at h
  refine Nat.eq_of_mul_eq_mul_right hW0 ?_
  generalize (RN o p n W k).1 = P at *
  generalize (RN o p n W k).2 = Q at *
  generalize (SN o p k).1 = A at *
  generalize (SN o p k).2 = B at *
  have h2 : P * (B * n) * W + n * (B * n) * Q * W + n * n * W * Q * B = A * W * Q * W + n * n * W * Q * B := by grind
  have h3 := Nat.add_right_cancel h2
  grind
theorem sq_cross {o p : Nat → Nat} {n W k : Nat} (hn : nsum o k = n) (hW : nsum p k = W) (hW0 : 0 < W) :
    ((SN o p k).1 * W - n * ((SN o p k).2 * n)) * (RN o p n W k).2 = (RN o p n W k).1 * ((SN o p k).2 * n) := by
  have h := sq_end (k := k) hn hW hW0
  rw [Nat.sub_mul, ← h, Nat.add_sub_cancel]
theorem RN_pos {o p : Nat → Nat} {n W : Nat} (hn : 0 < n) (hW : 0 < W) : ∀ {k}, (∀ i, i < k → 0 < p i) → 0 < (RN o p n W k).2
  | 0, _ => by simp [RN]
  | k + 1, h => by rw [RN]; exact Nat.mul_pos (RN_pos hn hW fun i hi => h i (by omega)) (Nat.mul_pos (Nat.mul_pos hn (h k (by omega))) hW)
theorem nsm_le {f : Nat → Nat} {B : Nat} : ∀ {n}, (∀ i, i < n → f i ≤ B) → nsum f n ≤ B * n
  | 0, _ => by simp [nsum]
  | n + 1, h => by
    have h1 := nsm_le (n := n) fun i hi => h i (by omega)
    have h2 := h n (by omega)
    rw [nsum, Nat.mul_succ]
    omega
theorem nsm_pos {f : Nat → Nat} {n : Nat} (hn : 0 < n) (h : ∀ i, i < n → 0 < f i) : 0 < nsum f n := by
  obtain ⟨m, rfl⟩ : ∃ m, n = m + 1 := ⟨n - 1, by omega⟩
  have := h m (by omega)
  rw [nsum]
  omega
theorem sm_nsum {f : Nat → Int} : ∀ {n}, (∀ i, i < n → 0 ≤ f i) → sm f n = (nsum (fun i => (f i).toNat) n : Int)
  | 0, _ => rfl
  | n + 1, h => by
    rw [sm, nsum, sm_nsum fun i hi => h i (by omega), Int.natCast_add, Int.toNat_of_nonneg (h n (by omega))]
theorem zr_at {p : Nat → Int} : ∀ {n}, zr p n = false → ∀ i, i < n → p i ≠ 0
  | 0, _, _, hi => by omega
  | n + 1, h, i, hi => by
    rw [zr, Bool.or_eq_false_iff] at h
    rcases Nat.lt_or_ge i n with h1 | h1
    · exact zr_at h.1 i h1
    · obtain rfl : i = n := by omega
      have := h.2
      simpa using this
theorem red_eq {N D P Q : Nat} (hD : 0 < D) (hQ : 0 < Q) (h : N * Q = P * D) : N / Nat.gcd N D = P / Nat.gcd P Q ∧ D / Nat.gcd N D = Q / Nat.gcd P Q :=
  Rep.same (Rep.red hD) (Rep.red hQ) (fok_low hD) (fok_low hQ) h
theorem rep_red {r s N D : Nat} (h : Rep r s N D) (k : fok r s = true) : r = N / Nat.gcd N D ∧ s = D / Nat.gcd N D :=
  Rep.same h (Rep.red h.d0) k (fok_low h.d0) rfl
theorem Gw.rs {B : Nat} {w' : World} {e : Ending} {K N D p q : Nat} (h : RS B w' e K N D) (hp : p = N / Nat.gcd N D) (hq : q = D / Nat.gcd N D) : Gw w' e p q 0 := by
  obtain ⟨E, l, c, G, m, c', r, s, rfl, hf, hr, _, _⟩ := h
  obtain ⟨rfl, rfl⟩ : r = p ∧ s = q := by
    have := rep_red hr hf.num.ok
    rw [hp, hq]
    exact this
  exact ⟨E, l, c, G, m, c', rfl, by have := hf.num.n64; omega, by have := hf.num.m64; omega, hf.num.nx, hf.num.my, hf.num.cx, hf.num.cy⟩
theorem sayE {W : World} {f : FuncId} {args : Array Value} {y : Nat} (h : ∀ w', Below W.heap.size W w' → Calls Try.prog f args w' fun e w'' => e = .returned (.tuple #[fv none 0 0 none 0 0, .int .i64 (y : Int)]) ∧ Below w'.heap.size w' w'') : Says W f args 0 0 (y : Int) :=
  fun w' hw => (h w' hw).mono fun _ _ ⟨k1, k2⟩ => ⟨Gw.err k1, k2⟩
theorem sayR {W : World} {f : FuncId} {args : Array Value} {K N D p q : Nat} (hp : p = N / Nat.gcd N D) (hq : q = D / Nat.gcd N D) (h : ∀ w', Below W.heap.size W w' → Calls Try.prog f args w' fun e w'' => RS w'.heap.size w'' e K N D ∧ Below w'.heap.size w' w'') : Says W f args p q 0 :=
  fun w' hw => (h w' hw).mono fun _ _ ⟨k1, k2⟩ => ⟨Gw.rs k1 hp hq, k2⟩
end Fa
end Go.Proofs.Ytiflmnmkmpjecaa
