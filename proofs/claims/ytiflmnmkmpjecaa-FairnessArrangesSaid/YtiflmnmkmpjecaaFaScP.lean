/- Plain facts on the chi-square statistic: scaled weights, doubled counts, when it is zero; sizes. And the walk of the law's is against 0. -/
import Derived.Test.YtiflmnmkmpjecaaFaGood
import Derived.Test.YtiflmnmkmpjecaaFaAwake
set_option linter.unusedVariables false
namespace Go.Proofs.Ytiflmnmkmpjecaa
open Go.RowKit
namespace Fa
open Fr
theorem nsum_scale (p : Nat → Nat) (c : Nat) : ∀ k, nsum (fun i => p i * c) k = nsum p k * c
  | 0 => by simp [nsum]
  | k + 1 => by rw [nsum, nsum, nsum_scale p c k, Nat.add_mul]
theorem nsum_two (p : Nat → Nat) : ∀ k, nsum (fun i => 2 * p i) k = 2 * nsum p k
  | 0 => rfl
  | k + 1 => by rw [nsum, nsum, nsum_two p k, Nat.mul_add]
theorem SN_scale (o p : Nat → Nat) (c : Nat) : ∀ k, (SN o (fun i => p i * c) k).1 * (c * (SN o p k).2) = (SN o p k).1 * (SN o (fun i => p i * c) k).2
  | 0 => by simp [SN]
  | k + 1 => by
    have ih := SN_scale o p c k
    rw [SN, SN]
    dsimp only
    generalize (SN o (fun i => p i * c) k).1 = A' at *
    generalize (SN o (fun i => p i * c) k).2 = B' at *
    generalize (SN o p k).1 = A at *
    generalize (SN o p k).2 = B at *
    generalize p k = y
    generalize o k = x
    have h : A' * (c * B) * (y * c * y) = A * B' * (y * c * y) := by rw [ih]
    clear ih
    grind
theorem SN_two (o p : Nat → Nat) : ∀ k, SN (fun i => 2 * o i) p k = (4 * (SN o p k).1, (SN o p k).2)
  | 0 => rfl
  | k + 1 => by
    rw [SN, SN, SN_two o p k]
    refine Prod.ext ?_ rfl
    dsimp only
    generalize (SN o p k).1 = A
    generalize (SN o p k).2 = B
    generalize p k = y
    generalize o k = x
    grind
/-- The statistic as two numbers. -/
def cN (o p : Nat → Nat) (n : Nat) : Nat := (SN o p n).1 * nsum p n - nsum o n * ((SN o p n).2 * nsum o n)
def cD (o p : Nat → Nat) (n : Nat) : Nat := (SN o p n).2 * nsum o n
theorem c_scale (o p : Nat → Nat) (c n : Nat) : cN o (fun i => p i * c) n * cD o p n = cN o p n * cD o (fun i => p i * c) n := by
  unfold cN cD
  rw [nsum_scale, Nat.sub_mul, Nat.sub_mul]
  have h := SN_scale o p c n
  generalize (SN o (fun i => p i * c) n).1 = A' at *
  generalize (SN o (fun i => p i * c) n).2 = B' at *
  generalize (SN o p n).1 = A at *
  generalize (SN o p n).2 = B at *
  generalize nsum p n = W
  generalize nsum o n = m
  have h1 : A' * (W * c) * (B * m) = A * W * (B' * m) := by
    have h2 : A' * (c * B) * (W * m) = A * B' * (W * m) := by rw [h]
    clear h
    grind
  have h3 : m * (B' * m) * (B * m) = m * (B * m) * (B' * m) := by grind
  rw [h1, h3]
theorem c_two (o p : Nat → Nat) (n : Nat) : cN (fun i => 2 * o i) p n = 4 * cN o p n ∧ cD (fun i => 2 * o i) p n = 2 * cD o p n := by
  unfold cN cD
  rw [nsum_two, SN_two]
  dsimp only
  generalize (SN o p n).1 = A
  generalize (SN o p n).2 = B
  generalize nsum p n = W
  generalize nsum o n = m
  refine ⟨?_, by grind⟩
  rw [Nat.mul_sub]
  have h1 : 4 * A * W = 4 * (A * W) := by grind
  have h2 : 2 * m * (B * (2 * m)) = 4 * (m * (B * m)) := by grind
  rw [h1, h2]
/-- All is as expected. -/
def ex (o p : Nat → Nat) (ns W : Nat) : Nat → Bool
  | 0 => true
  | i + 1 => ex o p ns W i && decide (o i * W = ns * p i)
theorem dd_zero {o p : Nat → Nat} {ns W i : Nat} : dd o p ns W i = 0 ↔ o i * W = ns * p i := by
  unfold dd
  by_cases h : o i * W < ns * p i
  · rw [if_pos h]; omega
  · rw [if_neg h]; omega
theorem RN_zero {o p : Nat → Nat} {ns W : Nat} (hn : 0 < ns) (hW : 0 < W) : ∀ {k}, (∀ i, i < k → 0 < p i) → ((RN o p ns W k).1 = 0 ↔ ex o p ns W k = true)
  | 0, _ => by simp [RN, ex]
  | k + 1, h => by
    have ih := RN_zero (o := o) hn hW (k := k) fun i hi => h i (by omega)
    have hq := RN_pos (o := o) hn hW (k := k) fun i hi => h i (by omega)
    have ht : 0 < ns * p k * W := Nat.mul_pos (Nat.mul_pos hn (h k (by omega))) hW
    rw [RN, ex, Bool.and_eq_true, decide_eq_true_eq, ← ih, ← dd_zero]
    dsimp only
    generalize (RN o p ns W k).1 = P at *
    generalize (RN o p ns W k).2 = Q at *
    generalize dd o p ns W k = d at *
    generalize ns * p k * W = t at *
    constructor
    · intro e
      have e1 : P * t = 0 := by omega
      have e2 : d * d * Q = 0 := by omega
      refine ⟨?_, ?_⟩
      · rcases Nat.mul_eq_zero.1 e1 with h1 | h1 <;> omega
      · rcases Nat.mul_eq_zero.1 e2 with h1 | h1
        · rcases Nat.mul_eq_zero.1 h1 with h2 | h2 <;> exact h2
        · omega
    · rintro ⟨h1, h2⟩
      rw [h1, h2, Nat.zero_mul, Nat.zero_mul]
theorem cN_zero {o p : Nat → Nat} {n : Nat} (hp : ∀ i, i < n → 0 < p i) (hn : 0 < nsum o n) (hW : 0 < nsum p n) : cN o p n = 0 ↔ ex o p (nsum o n) (nsum p n) n = true := by
  rw [← RN_zero hn hW hp]
  have h := sq_cross (o := o) (p := p) (k := n) rfl rfl hW
  have hQ := RN_pos (o := o) hn hW hp
  have hD : 0 < (SN o p n).2 * nsum o n := Nat.mul_pos (SN_pos hp) hn
  change cN o p n * _ = _ at h
  constructor
  · intro e
    rw [e, Nat.zero_mul] at h
    rcases Nat.mul_eq_zero.1 h.symm with h1 | h1
    · exact h1
    · omega
  · intro e
    rw [e, Nat.zero_mul] at h
    rcases Nat.mul_eq_zero.1 h with h1 | h1
    · exact h1
    · omega
theorem SN_size {o p : Nat → Nat} : ∀ {k}, (∀ i, i < k → o i ≤ 1000000 ∧ 0 < p i ∧ p i ≤ 1000000) → (SN o p k).2 ≤ 1000000 ^ k ∧ (SN o p k).1 ≤ k * 1000000000000 * (SN o p k).2
  | 0, _ => by simp [SN]
  | k + 1, h => by
    have ih := SN_size (k := k) fun i hi => h i (by omega)
    have hk := h k (by omega)
    rw [SN]
    dsimp only
    generalize (SN o p k).1 = A at *
    generalize (SN o p k).2 = B at *
    generalize p k = y at *
    generalize o k = x at *
    refine ⟨?_, ?_⟩
    · rw [Nat.pow_succ]
      exact Nat.mul_le_mul ih.1 hk.2.2
    · have h1 : A * y ≤ k * 1000000000000 * B * y := Nat.mul_le_mul_right _ ih.2
      have h2 : x * x ≤ 1000000000000 := Nat.mul_le_mul hk.1 hk.1
      have h3 : x * x * B ≤ 1000000000000 * B := Nat.mul_le_mul_right _ h2
      have h4 : 1000000000000 * B ≤ 1000000000000 * (B * y) := Nat.mul_le_mul_left _ (Nat.le_mul_of_pos_right _ hk.2.1)
      have h5 : (k + 1) * 1000000000000 * (B * y) = k * 1000000000000 * B * y + 1000000000000 * (B * y) := by grind
      rw [h5]
      omega
theorem c_size {o p : Nat → Nat} {n : Nat} (hn : n ≤ 12) (h : ∀ i, i < n → o i ≤ 1000000 ∧ 0 < p i ∧ p i ≤ 1000000) : Fit32 (cN o p n) 11 ∧ Fit32 (cD o p n) 9 := by
  obtain ⟨h1, h2⟩ := SN_size h
  have h3 : nsum o n ≤ 1000000 * n := nsm_le fun i hi => (h i hi).1
  have h4 : nsum p n ≤ 1000000 * n := nsm_le fun i hi => (h i hi).2.2
  have h5 : (SN o p n).2 ≤ 1000000 ^ 12 := Nat.le_trans h1 (Nat.pow_le_pow_right (by omega) hn)
  have h6 : nsum o n ≤ 12000000 := by omega
  have h7 : nsum p n ≤ 12000000 := by omega
  have h8 : (SN o p n).1 ≤ 12000000000000 * 1000000 ^ 12 := Nat.le_trans h2 (Nat.mul_le_mul (by omega) h5)
  unfold cN cD
  refine ⟨Nat.lt_of_le_of_lt (Nat.sub_le _ _) (Nat.lt_of_le_of_lt (Nat.mul_le_mul h8 h7) ?_), Nat.lt_of_le_of_lt (Nat.mul_le_mul h5 h6) ?_⟩
  · decide
  · decide
set_option maxHeartbeats 2000000 in
theorem is_zero {D0 D1 : Option Addr} {n0 n1 c0 c1 a b : Nat} {w : World} (hn0 : n0 ≤ 1000) (hn1 : n1 ≤ 1000) (h0 : n0 = L32 a) (h1 : n1 = L32 b) (hx0 : Cells w D0 n0 (Lm (d32 a))) (hx1 : Cells w D1 n1 (Lm (d32 b))) :
    Calls Try.prog 19 #[.agg #[.slice D0 n0 c0, .slice D1 n1 c1], .int .i64 0, .int .i64 1] w fun e w' => e = .returned (.bool (decide (a = 0) && decide (b = 1))) ∧ Below w.heap.size w w' := by
  have BS0 := Lib.hid (boxF1 w (.slice D0 n0 c0) (.slice D1 n1 c1))
  have HOF := Lib.hid (fun (w' : World) => (rof_ok w' (x := 0) (y := 1) (by omega) (by omega) (by omega)).mono fun e w'' ⟨h, hb2⟩ => (⟨Fx.of_res h (show 0 / Nat.gcd 0 1 = 0 by decide) (show 1 / Nat.gcd 0 1 = 1 by decide) (by omega) (by omega), hb2⟩ : Fx w'' e 0 1 ∧ Below w'.heap.size w' w''))
  have H0 := Lib.hid h0
  have H1 := Lib.hid h1
  have HX0 := Lib.hid hx0
  have HX1 := Lib.hid hx1
  clear h0 h1 hx0 hx1
  obtain ⟨v, hv⟩ : ∃ v, v = (decide (a = 0) && decide (b = 1)) := ⟨_, rfl⟩
  have HV := Lib.hid hv
  rw [← hv]
  clear hv
  go_enter Try.func19, Try.ntmps19
  go_wp2_with fail
  refine (HOF.out _).mono ?_
  rintro e w1 ⟨⟨D2, l2, c2, E2, m2, c3, rfl, k1, k2, hl, hm, hc, hd⟩, hb⟩
  have BQ := Lib.hid (BS0.out.on hb)
  have BS1 := Lib.hid (BQ.out.alloc TF #[.slice D2 l2 c2, .slice E2 m2 c3])
  have C := Lib.hid (hc.alloc (.cells #[.slice D2 l2 c2, .slice E2 m2 c3] TF))
  have G := Lib.hid (hd.alloc (.cells #[.slice D2 l2 c2, .slice E2 m2 c3] TF))
  have HL := Lib.hid hl
  have HM := Lib.hid hm
  obtain ⟨_, lf, kf⟩ := BQ.out.get (.head _)
  have q0 : w1.cell? ⟨w.heap.size, 0, none⟩ = some (.slice D0 n0 c0) := kf.cell 0
  have q1 : w1.cell? ⟨w.heap.size, 1, none⟩ = some (.slice D1 n1 c1) := kf.cell 1
  clear hb hc hd hl hm kf BS0
  have KS := same_any (c0 := c0) (c1 := c1) (c2 := c2) (c3 := c3) hn0 hn1 (by omega) (by omega) H0.out H1.out HL.out HM.out (HX0.out.below BS1.out.below) (HX1.out.below BS1.out.below) C.out G.out
  rw [← HV.out] at KS
  unfold fv at KS
  have HKS := Lib.hid KS
  clear KS
  go_wp2_with fail
  refine HKS.out.mono ?_
  rintro e w2 ⟨rfl, hb⟩
  have HB := Lib.hid (BS1.out.on hb).below
  clear hb
  go_wp2
  go_ret
  exact ⟨rfl, HB.out⟩
end Fa
end Go.Proofs.Ytiflmnmkmpjecaa
