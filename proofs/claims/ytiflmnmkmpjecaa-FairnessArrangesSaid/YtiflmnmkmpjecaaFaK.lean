/- The walks of the reference's MulDiv (01) and Count (05), of small numbers. -/
import Derived.Test.YtiflmnmkmpjecaaFaRCh
import Derived.Test.YtiflmnmkmpjecaaFaRuns
set_option linter.unusedVariables false
namespace Go.Proofs.Ytiflmnmkmpjecaa
open Go.RowKit
namespace Fa
open Fr
theorem mul_small {a b : Nat} (ha : a ≤ 65535) (hb : b ≤ 65535) : a * b < 4294967296 := Nat.lt_of_le_of_lt (Nat.mul_le_mul ha hb) (by decide)
set_option maxHeartbeats 2000000 in
theorem wide_sm (w : World) {a b : Nat} (ha : a ≤ 65535) (hb : b ≤ 65535) :
    Calls Try.prog 94 #[.int .u64 (a : Int), .int .u64 (b : Int)] w fun e w' => e = .returned (.tuple #[.int .u64 0, .int .u64 ((a * b : Nat) : Int)]) ∧ w = w' := by
  obtain ⟨p, hp⟩ : ∃ p, p = a * b := ⟨_, rfl⟩
  have hp2 : p < 4294967296 := by rw [hp]; exact mul_small ha hb
  have t1 : (a : Int).tmod 4294967296 = (a : Int) := by rw [Int.tmod_eq_emod_of_nonneg (by omega)]; omega
  have t2 : (a : Int).tdiv 4294967296 = 0 := by rw [Int.tdiv_eq_ediv_of_nonneg (by omega)]; omega
  have t3 : (b : Int).tmod 4294967296 = (b : Int) := by rw [Int.tmod_eq_emod_of_nonneg (by omega)]; omega
  have t4 : (b : Int).tdiv 4294967296 = 0 := by rw [Int.tdiv_eq_ediv_of_nonneg (by omega)]; omega
  have t5 : (p : Int).tmod 4294967296 = (p : Int) := by rw [Int.tmod_eq_emod_of_nonneg (by omega)]; omega
  have t6 : (p : Int).tdiv 4294967296 = 0 := by rw [Int.tdiv_eq_ediv_of_nonneg (by omega)]; omega
  have u0 : IntKind.u64.wrap 0 = 0 := by decide
  have u1 : IntKind.u64.wrap (a : Int) = (a : Int) := IntWalk.u64_in _ (by omega)
  have u2 : IntKind.u64.wrap (b : Int) = (b : Int) := IntWalk.u64_in _ (by omega)
  have u3 : IntKind.u64.wrap (p : Int) = (p : Int) := IntWalk.u64_in _ (by omega)
  have u4 : IntKind.u64.wrap ((a : Int) * (b : Int)) = (p : Int) := by rw [show (a : Int) * (b : Int) = (p : Int) by rw [hp]; rfl]; exact u3
  have v1 : (0 : Int).tmod 4294967296 = 0 := by decide
  have v2 : (0 : Int).tdiv 4294967296 = 0 := by decide
  rw [← hp]
  clear hp ha hb hp2
  go_enter Try.func94, Try.ntmps94
  go_wp2
  refine bodyPost_ret (v := .tuple #[.int .u64 0, .int .u64 (p : Int)]) (by simp [results, Try.results94, go_sem]) rfl ?_
  exact ⟨rfl, rfl⟩
theorem half_nat (v : Nat) : ((v : Nat) : Int).tdiv 2 = ((v / 2 : Nat) : Int) := rfl
set_option maxHeartbeats 2000000 in
theorem bit_sm (w : World) {lo i : Nat} (hlo : lo < 4294967296) (hi : i ≤ 127) :
    Calls Try.prog 95 #[.int .u64 0, .int .u64 (lo : Int), .int .i64 (i : Int)] w fun e w' => e = .returned (.int .u64 ((lo / 2 ^ i % 2 : Nat) : Int)) ∧ w = w' := by
  have key : ∃ x j : Nat, (x < 4294967296) ∧ j ≤ 63 ∧ x / 2 ^ j % 2 = lo / 2 ^ i % 2 ∧ ((((64 : Int) ≤ (i : Int)) ∧ x = 0 ∧ (j : Int) = (i : Int) - 64) ∨ (((64 : Int) ≤ (i : Int)) = False ∧ x = lo ∧ j = i)) := by
    by_cases h : 64 ≤ i
    · refine ⟨0, i - 64, by omega, by omega, ?_, .inl ⟨by omega, rfl, by omega⟩⟩
      have h1 : lo / 2 ^ i = 0 := Nat.div_eq_of_lt (Nat.lt_of_lt_of_le hlo (Nat.le_trans (show 4294967296 ≤ 2 ^ 64 by decide) (Nat.pow_le_pow_right (by omega) h)))
      rw [h1, Nat.zero_div]
    · exact ⟨lo, i, hlo, by omega, rfl, .inr ⟨eq_false (by omega), rfl, rfl⟩⟩
  obtain ⟨x, j, hx, hj, hv, hc⟩ := key
  rw [← hv]
  have HX := Lib.hid hx
  obtain ⟨R, hR⟩ : ∃ R, R = x / 2 ^ j % 2 := ⟨_, rfl⟩
  rw [← hR]
  have HR := Lib.hid hR
  have hw : IntKind.i64.wrap ((i : Int) - 64) = (i : Int) - 64 := IntWalk.i64_in _ (by omega)
  clear hv hlo hR
  rcases hc with ⟨h1, h2, h3⟩ | ⟨h1, h2, rfl⟩
  all_goals
    go_enter Try.func95, Try.ntmps95
    go_wp2
    try rw [hw]
    try rw [← h3]
    go_loopw [8, 7] (fun s8 s7 wr => ∃ k : Nat, k ≤ j ∧ s8 = .int .i64 (k : Int) ∧ s7 = .int .u64 ((x / 2 ^ k : Nat) : Int) ∧ wr = w) (fun i _ _ => j - (intOf i).toNat)
    case atStart => exact ⟨0, Nat.zero_le _, rfl, by first | (rw [Nat.pow_zero, Nat.div_one, h2]; done) | (rw [Nat.pow_zero, Nat.div_one, h2]; rfl), rfl⟩
    case round =>
      obtain ⟨k, hk, rfl, rfl, hwr⟩ := hrel
      obtain rfl := hwr.symm
      obtain ⟨v, hv⟩ : ∃ v, v = x / 2 ^ k := ⟨_, rfl⟩
      rw [← hv]
      have hv2 : v < 4294967296 := by rw [hv]; exact Nat.lt_of_le_of_lt (Nat.div_le_self _ _) HX.out
      by_cases hkj : k < j
      · have gk : ((k : Int) < (j : Int)) := by omega
        have hw5 : IntKind.i64.wrap ((k : Int) + 1) = (k : Int) + 1 := IntWalk.i64_in _ (by omega)
        obtain ⟨v2, hv3⟩ : ∃ v2, v2 = v / 2 := ⟨_, rfl⟩
        have e1 : (v : Int).tdiv 2 = (v2 : Int) := by rw [hv3]; rfl
        have e2 : IntKind.u64.wrap (v2 : Int) = (v2 : Int) := IntWalk.u64_in _ (by omega)
        have HN : Hid (x / 2 ^ (k + 1) = v2) := Lib.hid (by rw [Nat.pow_succ, ← Nat.div_div_eq_div_mul, ← hv, hv3])
        have HKJ := Lib.hid hkj
        clear hv hv2 hv3 hk hkj
        go_wp2
        go_roundw
        case rel => exact ⟨k + 1, HKJ.out, by go_num, by rw [HN.out], by first | rfl | trivial⟩
        case measure => have := HKJ.out; simp [intOf] <;> omega
      · obtain rfl : k = j := by omega
        have gk : ((k : Int) < (k : Int)) = False := eq_false (by omega)
        have e0 : R = v % 2 := by rw [HR.out, hv]
        have e1 : (v : Int).tmod 2 = (R : Int) := by rw [e0]; rfl
        have e2 : IntKind.u64.wrap (R : Int) = (R : Int) := IntWalk.u64_in _ (by omega)
        clear hv hv2 e0 hk hkj
        go_wp2
        go_ret
        exact ⟨rfl, rfl⟩
theorem dm_step {Q b c q r : Nat} (hc : 0 < c) (hb : b ≤ 1) (hq : q = Q / c) (hr : r = Q % c) :
    (2 * r + b < c → (2 * Q + b) / c = 2 * q ∧ (2 * Q + b) % c = 2 * r + b) ∧ (c ≤ 2 * r + b → (2 * Q + b) / c = 2 * q + 1 ∧ (2 * Q + b) % c = 2 * r + b - c) := by
  have h1 : r + c * q = Q := by rw [hq, hr]; exact Nat.mod_add_div Q c
  have h2 : r < c := by rw [hr]; exact Nat.mod_lt _ hc
  have h3 : c * (2 * q) = 2 * (c * q) := by grind
  have h4 : c * (2 * q + 1) = 2 * (c * q) + c := by grind
  refine ⟨fun h => (Nat.div_mod_unique hc).2 ⟨by rw [h3]; omega, h⟩, fun h => (Nat.div_mod_unique hc).2 ⟨by rw [h4]; omega, by omega⟩⟩
set_option maxHeartbeats 4000000 in
theorem muldiv_sm (w : World) {a b c : Nat} (ha : a ≤ 65535) (hb : b ≤ 65535) (hc0 : 0 < c) (hc : c ≤ 65535) :
    Calls Try.prog 67 #[.int .i64 (a : Int), .int .i64 (b : Int), .int .i64 (c : Int)] w fun e w' => e = .returned (.tuple #[.int .i64 ((a * b / c : Nat) : Int), .int .i64 ((a * b % c : Nat) : Int), .int .i64 0]) ∧ w = w' := by
  have HWD := Lib.hid (wide_sm w ha hb)
  have hp2 : a * b < 4294967296 := mul_small ha hb
  obtain ⟨p, hp⟩ : ∃ p, p = a * b := ⟨_, rfl⟩
  rw [← hp] at HWD hp2 ⊢
  have HP := Lib.hid hp2
  have e1 : ((c : Int) == 0) = false := by simp; omega
  have e2 : ((a : Int) < 0) = False := eq_false (by omega)
  have e3 : ((b : Int) < 0) = False := eq_false (by omega)
  have e4 : ((c : Int) < 0) = False := eq_false (by omega)
  have u1 : IntKind.u64.wrap (a : Int) = (a : Int) := IntWalk.u64_in _ (by omega)
  have u2 : IntKind.u64.wrap (b : Int) = (b : Int) := IntWalk.u64_in _ (by omega)
  have u3 : IntKind.u64.wrap (c : Int) = (c : Int) := IntWalk.u64_in _ (by omega)
  have e5 : ((c : Int) ≤ 0) = False := eq_false (by omega)
  have e6 : (c = 0) = False := eq_false (by omega)
  have HC0 := Lib.hid hc0
  have HC := Lib.hid hc
  obtain ⟨A1, hA1⟩ : ∃ v, v = p / c := ⟨_, rfl⟩
  obtain ⟨A2, hA2⟩ : ∃ v, v = p % c := ⟨_, rfl⟩
  rw [← hA1, ← hA2]
  have HA := Lib.hid (show A1 = p / c ∧ A2 = p % c from ⟨hA1, hA2⟩)
  clear hA1 hA2 hp hp2 ha hb hc0 hc
  go_enter Try.func67, Try.ntmps67
  go_wp2_with fail
  refine HWD.out.mono ?_
  rintro e w1 ⟨rfl, hw1⟩
  obtain rfl := hw1
  go_wp2
  go_loopw [13, 11, 12] (fun s13 s11 s12 wr => ∃ (t q r : Nat), t ≤ 128 ∧ s13 = .int .i64 ((t : Int) - 1) ∧ s11 = .int .u64 (q : Int) ∧ s12 = .int .u64 (r : Int) ∧ Hid (q = p / 2 ^ t / c ∧ r = p / 2 ^ t % c) ∧ wr = w) (fun i _ _ _ => (intOf i + 1).toNat)
  case atStart =>
    have h0 : p / 2 ^ 128 = 0 := Nat.div_eq_of_lt (Nat.lt_of_lt_of_le HP.out (by decide))
    exact ⟨128, 0, 0, Nat.le_refl _, rfl, rfl, rfl, Lib.hid (by rw [h0, Nat.zero_div, Nat.zero_mod]; exact ⟨rfl, rfl⟩), rfl⟩
  case round =>
    obtain ⟨t, q, r, ht, rfl, rfl, rfl, HQR, hwr⟩ := hrel
    obtain rfl := hwr.symm
    by_cases ht0 : 0 < t
    · obtain ⟨u, hu⟩ : ∃ u, t = u + 1 := ⟨t - 1, by omega⟩
      subst hu
      have hu127 : u ≤ 127 := by omega
      have hti : ((u + 1 : Nat) : Int) - 1 = (u : Int) := by omega
      rw [hti]
      have i1 : (0 : Int) ≤ (u : Int) := by omega
      have HB := Lib.hid (bit_sm w HP.out hu127)
      obtain ⟨bt, hbt⟩ : ∃ v, v = p / 2 ^ u % 2 := ⟨_, rfl⟩
      rw [← hbt] at HB
      have hb1 : bt ≤ 1 := by rw [hbt]; omega
      have hQ : p / 2 ^ u = 2 * (p / 2 ^ (u + 1)) + bt := by
        rw [Nat.pow_succ, ← Nat.div_div_eq_div_mul, hbt]
        omega
      have hst := dm_step HC0.out hb1 HQR.out.1 HQR.out.2
      rw [← hQ] at hst
      have hq9 : q ≤ 4294967296 := by rw [HQR.out.1]; exact Nat.le_trans (Nat.div_le_self _ _) (Nat.le_trans (Nat.div_le_self _ _) (Nat.le_of_lt HP.out))
      have hr9 : r ≤ 65535 := by rw [HQR.out.2]; exact Nat.le_trans (Nat.le_of_lt (Nat.mod_lt _ HC0.out)) HC.out
      obtain ⟨r2, hr2⟩ : ∃ v, v = 2 * r := ⟨_, rfl⟩
      obtain ⟨r3, hr3⟩ : ∃ v, v = r2 + bt := ⟨_, rfl⟩
      obtain ⟨q2, hq2⟩ : ∃ v, v = 2 * q := ⟨_, rfl⟩
      have w1 : IntKind.u64.wrap (2 * (r : Int)) = (r2 : Int) := by rw [IntWalk.u64_in _ (by omega)]; omega
      have w2 : IntKind.u64.wrap ((r2 : Int) + (bt : Int)) = (r3 : Int) := by rw [IntWalk.u64_in _ (by omega)]; omega
      have w3 : IntKind.u64.wrap (2 * (q : Int)) = (q2 : Int) := by rw [IntWalk.u64_in _ (by omega)]; omega
      have w4 : IntKind.i64.wrap ((u : Int) - 1) = (u : Int) - 1 := IntWalk.i64_in _ (by omega)
      rw [← hr2, ← hr3, ← hq2] at hst
      have HU := Lib.hid hu127
      by_cases hcr : c ≤ r3
      · obtain ⟨r4, hr4⟩ : ∃ v, v = r3 - c := ⟨_, rfl⟩
        obtain ⟨q3, hq3⟩ : ∃ v, v = q2 + 1 := ⟨_, rfl⟩
        have w5 : IntKind.u64.wrap ((r3 : Int) - (c : Int)) = (r4 : Int) := by rw [IntWalk.u64_in _ (by omega)]; omega
        have w6 : IntKind.u64.wrap ((q2 : Int) + 1) = (q3 : Int) := by rw [IntWalk.u64_in _ (by omega)]; omega
        have g1 : ((c : Int) ≤ (r3 : Int)) := by omega
        have HN := Lib.hid (show q3 = p / 2 ^ u / c ∧ r4 = p / 2 ^ u % c from ⟨by rw [(hst.2 hcr).1, hq3], by rw [(hst.2 hcr).2, hr4]⟩)
        clear hst hq9 hr9 hr2 hr3 hq2 hr4 hq3 hcr hQ hbt hb1 HQR hti ht ht0 hu127
        go_wp2_with fail
        refine HB.out.mono ?_
        rintro e w7 ⟨rfl, hw7⟩
        obtain rfl := hw7
        go_wp2
        go_roundw
        case rel => exact ⟨u, q3, r4, by have := HU.out; omega, rfl, rfl, rfl, HN, by first | rfl | trivial⟩
        case measure => have := HU.out; simp [intOf] <;> omega
      · have g1 : ((c : Int) ≤ (r3 : Int)) = False := eq_false (by omega)
        have HN := Lib.hid (show q2 = p / 2 ^ u / c ∧ r3 = p / 2 ^ u % c from ⟨by rw [(hst.1 (by omega)).1], by rw [(hst.1 (by omega)).2]⟩)
        clear hst hq9 hr9 hr2 hr3 hq2 hcr hQ hbt hb1 HQR hti ht ht0 hu127
        go_wp2_with fail
        refine HB.out.mono ?_
        rintro e w7 ⟨rfl, hw7⟩
        obtain rfl := hw7
        go_wp2
        go_roundw
        case rel => exact ⟨u, q2, r3, by have := HU.out; omega, rfl, rfl, rfl, HN, by first | rfl | trivial⟩
        case measure => have := HU.out; simp [intOf] <;> omega
    · obtain rfl : t = 0 := by omega
      have g1 : ((0 : Int) ≤ ((0 : Nat) : Int) - 1) = False := eq_false (by omega)
      have hq : q = A1 ∧ r = A2 := by
        rw [HQR.out.1, HQR.out.2, HA.out.1, HA.out.2, Nat.pow_zero, Nat.div_one]
        exact ⟨rfl, rfl⟩
      have hA1 : A1 ≤ 4294967296 := by rw [HA.out.1]; exact Nat.le_trans (Nat.div_le_self _ _) (Nat.le_of_lt HP.out)
      have hA2 : A2 ≤ 65535 := by rw [HA.out.2]; exact Nat.le_trans (Nat.le_of_lt (Nat.mod_lt _ HC0.out)) HC.out
      obtain ⟨rfl, rfl⟩ := hq
      have g2 : ((9223372036854775807 : Int) < (q : Int)) = False := eq_false (by omega)
      have w1 : IntKind.i64.wrap (q : Int) = (q : Int) := IntWalk.i64_in _ (by omega)
      have w2 : IntKind.i64.wrap (r : Int) = (r : Int) := IntWalk.i64_in _ (by omega)
      clear hA1 hA2 ht ht0
      go_wp2
      refine bodyPost_ret (v := .tuple #[.int .i64 (q : Int), .int .i64 (r : Int), .int .i64 0]) (by simp [results, Try.results67, go_sem]) rfl ?_
      exact ⟨rfl, rfl⟩
set_option maxRecDepth 100000 in
theorem cl_ten : ∀ n, n < 11 → ∀ k, k < n + 1 → ∀ i, i < k + 1 → cl n k i ≤ 65535 := by decide +kernel
set_option maxHeartbeats 4000000 in
theorem rcount_sm (w : World) {n : Nat} (hn : n ≤ 10) (k : Int) :
    Calls Try.prog 29 #[.int .i64 (n : Int), .int .i64 k] w fun e w' => e = .returned (.tuple #[.int .i64 ((cz n k : Nat) : Int), .int .i64 0]) ∧ w = w' := by
  have I1 := in_any w (n : Int) 80
  rw [show decide (0 ≤ (n : Int) ∧ (n : Int) ≤ 80) = true from decide_eq_true (by omega)] at I1
  have HI1 := Lib.hid I1
  have I2 := in_any w k (n : Int)
  clear I1
  by_cases hk : 0 ≤ k ∧ k ≤ (n : Int)
  · rw [decide_eq_true hk] at I2
    have HI2 := Lib.hid I2
    obtain ⟨k, rfl⟩ := Int.eq_ofNat_of_zero_le hk.1
    have hkn : k ≤ n := by omega
    have hz : cz n (k : Int) = cl n k k := by unfold cz; rw [if_pos hk]; rfl
    obtain ⟨Z, hZ⟩ : ∃ Z, Z = cz n (k : Int) := ⟨_, rfl⟩
    rw [← hZ] at hz ⊢
    have HZ := Lib.hid hz
    obtain ⟨nk, hnk⟩ : ∃ v, v = n - k := ⟨_, rfl⟩
    have w1 : IntKind.i64.wrap ((n : Int) - (k : Int)) = (nk : Int) := by rw [IntWalk.i64_in _ (by omega)]; omega
    have HNK := Lib.hid hnk
    have HKN := Lib.hid (show k ≤ n ∧ n ≤ 10 from ⟨hkn, hn⟩)
    clear I2 hk hz hZ hnk hkn hn
    go_enter Try.func29, Try.ntmps29
    go_wp2_with fail
    refine HI1.out.mono ?_
    rintro e w2 ⟨rfl, hw2⟩
    obtain rfl := hw2
    go_wp2_with fail
    refine HI2.out.mono ?_
    rintro e w3 ⟨rfl, hw3⟩
    obtain rfl := hw3
    go_wp2
    go_loopw [7, 6] (fun s7 s6 wr => ∃ (i c : Nat), i ≤ k ∧ s7 = .int .i64 ((i + 1 : Nat) : Int) ∧ s6 = .int .i64 (c : Int) ∧ Hid (c = cl n k i) ∧ wr = w) (fun i _ _ => (k + 1) - (intOf i).toNat)
    case atStart => exact ⟨0, 1, Nat.zero_le _, rfl, rfl, Lib.hid rfl, rfl⟩
    case round =>
      obtain ⟨i, c, hi, rfl, rfl, HC, hwr⟩ := hrel
      obtain rfl := hwr.symm
      obtain ⟨i1, hi1⟩ : ∃ v, v = i + 1 := ⟨_, rfl⟩
      rw [← hi1]
      by_cases hik : i < k
      · have g1 : ((i1 : Int) ≤ (k : Int)) := by omega
        have k10 := HKN.out
        obtain ⟨m, hm⟩ : ∃ v, v = nk + i1 := ⟨_, rfl⟩
        have w2 : IntKind.i64.wrap ((nk : Int) + (i1 : Int)) = (m : Int) := by rw [IntWalk.i64_in _ (by have := HNK.out; omega)]; omega
        have w3 : IntKind.i64.wrap ((i1 : Int) + 1) = (i1 : Int) + 1 := IntWalk.i64_in _ (by omega)
        have hcl : c ≤ 65535 := by rw [HC.out]; exact cl_ten n (by omega) k (by omega) i (by omega)
        have HM := muldiv_sm w (a := c) (b := m) (c := i1) hcl (by have := HNK.out; omega) (by omega) (by omega)
        obtain ⟨q, hq⟩ : ∃ v, v = c * m / i1 := ⟨_, rfl⟩
        obtain ⟨r, hr⟩ : ∃ v, v = c * m % i1 := ⟨_, rfl⟩
        rw [← hq, ← hr] at HM
        have HMD := Lib.hid HM
        have HQ : Hid (q = cl n k (i + 1)) := Lib.hid (by rw [cl, hq, HC.out, hm, hi1, HNK.out])
        have HII := Lib.hid (show i1 = i + 1 ∧ i < k from ⟨hi1, hik⟩)
        clear HM hq hr hcl hm hi1 hik hi k10
        go_wp2_with fail
        refine HMD.out.mono ?_
        rintro e w5 ⟨rfl, hw5⟩
        obtain rfl := hw5
        go_wp2
        go_roundw
        case rel => exact ⟨i + 1, q, by have := HII.out.2; omega, by rw [← HII.out.1]; rfl, rfl, HQ, by first | rfl | trivial⟩
        case measure => have := HII.out; simp [intOf] <;> omega
      · obtain rfl : i = k := by omega
        have g1 : ((i1 : Int) ≤ (i : Int)) = False := eq_false (by omega)
        have hc : c = Z := by rw [HC.out, HZ.out]
        subst hc
        clear hi hik hi1
        go_wp2
        refine bodyPost_ret (v := .tuple #[.int .i64 (c : Int), .int .i64 0]) (by simp [results, Try.results29, go_sem]) rfl ?_
        exact ⟨rfl, rfl⟩
  · rw [decide_eq_false hk] at I2
    have HI2 := Lib.hid I2
    have hz : cz n k = 0 := by unfold cz; rw [if_neg hk]
    rw [hz]
    clear I2 hk hz hn
    go_enter Try.func29, Try.ntmps29
    go_wp2_with fail
    refine HI1.out.mono ?_
    rintro e w2 ⟨rfl, hw2⟩
    obtain rfl := hw2
    go_wp2_with fail
    refine HI2.out.mono ?_
    rintro e w3 ⟨rfl, hw3⟩
    obtain rfl := hw3
    go_wp2
    refine bodyPost_ret (v := .tuple #[.int .i64 0, .int .i64 0]) (by simp [results, Try.results29, go_sem]) rfl ?_
    exact ⟨rfl, rfl⟩
end Fa
end Go.Proofs.Ytiflmnmkmpjecaa
