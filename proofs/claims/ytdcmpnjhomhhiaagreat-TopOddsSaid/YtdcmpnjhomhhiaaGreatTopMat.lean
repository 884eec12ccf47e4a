/- Counts of a tiny game of TopOdds: comb.Count, num.Mul, matrix.Count. -/
import Derived.Test.YtdcmpnjhomhhiaaGreatTopChk
import Derived.Test.YtdcmpnjhomhhiaaGreatG2
set_option linter.unusedVariables false
namespace Go.Proofs.YtdcmpnjhomhhiaaGreat
open Go.RowKit Fr Fa
namespace Tp
set_option maxHeartbeats 8000000 in
set_option maxRecDepth 100000 in
theorem narrow_num {D : Option Addr} {l c N : Nat} {w : World} (hN : N < 9223372036854775808) (hl : l = L32 N) (hx : Cells w D l (Lm (d32 N))) : Calls Tryz.prog 35 #[.agg #[.slice D l c]] w fun e w' => e = .returned (.tuple #[.int .i64 (N : Int), .int .i64 0]) ∧ Below w.heap.size w w' := by
  have h2 : l ≤ 2 := by rw [hl]; exact fit32_le (by unfold Fit32; omega)
  have BS0 := Lib.hid (box1z w (.slice D l c))
  have HX := Lib.hid (hx.alloc (.cells #[.slice D l c] TN))
  have HL := Lib.hid hl
  clear hl hx
  go_enter Tryz.func35, Tryz.ntmps35
  go_wp2_with fail
  refine (uint_yes h2 (by omega) HL.out HX.out).mono ?_
  rintro e w1 ⟨rfl, hb1⟩
  have HB := Lib.hid (BS0.out.on hb1).below
  have w0 : IntKind.i64.wrap (N : Int) = (N : Int) := IntWalk.i64_in _ (by omega)
  have c0 : ((9223372036854775807 : Int) < (N : Int)) = False := eq_false (by omega)
  clear hb1
  go_wp2
  go_ret2
  exact ⟨rfl, HB.out⟩
set_option maxHeartbeats 8000000 in
set_option maxRecDepth 100000 in
theorem count_any (w : World) {n : Nat} (hn : n ≤ 80) (k : Int) (hz : cz n k < 9223372036854775808) : Calls Tryz.prog 17 #[.int .i64 (n : Int), .int .i64 k] w fun e w' => e = .returned (.tuple #[.int .i64 (cz n k : Int), .int .i64 0]) ∧ Below w.heap.size w w' := by
  have HC := Lib.hid (choose_any w hn k)
  go_enter Tryz.func17, Tryz.ntmps17
  go_wp2_with fail
  with_reducible refine HC.out.mono ?_
  rintro e w1 ⟨⟨D1, l1, c1, rfl, hl, hc, hf⟩, hb⟩
  have BS1 := Lib.hid (((Bs.nil w).on hb).alloc TN #[.slice D1 l1 c1])
  have C1 := Lib.hid (hc.alloc (.cells #[.slice D1 l1 c1] TN))
  have L1 := Lib.hid hl
  clear hb hc hl hf
  go_wp2_with fail
  refine (narrow_num hz L1.out C1.out).mono ?_
  rintro e w2 ⟨rfl, hb⟩
  have HB := Lib.hid (BS1.out.on hb).below
  clear hb
  go_wp2
  go_ret2
  exact ⟨rfl, HB.out⟩
set_option maxHeartbeats 8000000 in
set_option maxRecDepth 100000 in
theorem mag_nat (w : World) {n : Nat} (hn : n < 9223372036854775808) : Calls Tryz.prog 37 #[.int .i64 (n : Int)] w fun e w' => e = .returned (.int .u64 (n : Int)) ∧ w = w' := by
  have e1 : ((n : Int) < 0) = False := eq_false (by omega)
  have e2 : IntKind.u64.wrap (n : Int) = (n : Int) := IntWalk.u64_in _ (by omega)
  go_enter Tryz.func37, Tryz.ntmps37
  go_wp2
  go_ret
  exact ⟨rfl, rfl⟩
theorem and_id {x : Nat} (hx : x < 4294967296) : bits .and .u64 (x : Int) 4294967295 = (x : Int) := by
  have h := Go.bits_and_u64_nat x 4294967295 (by omega) (by omega)
  rw [show (4294967295 : Nat) = 2 ^ 32 - 1 from rfl, Nat.and_two_pow_sub_one_eq_mod, Nat.mod_eq_of_lt hx] at h
  exact h
set_option maxHeartbeats 8000000 in
set_option maxRecDepth 100000 in
theorem mul64_small (w : World) {x y : Nat} (hx : x < 65536) (hy : y < 65536) : Calls Tryz.prog 36 #[.int .u64 (x : Int), .int .u64 (y : Int)] w fun e w' => e = .returned (.tuple #[.int .u64 0, .int .u64 ((x * y : Nat) : Int)]) ∧ w = w' := by
  have hxy : x * y ≤ 65535 * 65535 := Nat.mul_le_mul (by omega) (by omega)
  have a1 := and_id (x := x) (by omega)
  have a2 := and_id (x := y) (by omega)
  have d1 : (x : Int) / 4294967296 = 0 := by omega
  have d2 : (y : Int) / 4294967296 = 0 := by omega
  go_enter Tryz.func36, Tryz.ntmps36
  have a3 : bits .and .u64 0 4294967295 = 0 := and_id (x := 0) (by omega)
  obtain ⟨z, hz⟩ : ∃ z, z = x * y := ⟨_, rfl⟩
  rw [← hz] at hxy ⊢
  have e : (x : Int) * (y : Int) = (z : Int) := by rw [hz]; exact (Int.natCast_mul ..).symm
  have d3 : (z : Int) / 4294967296 = 0 := by omega
  clear hz
  go_wp2
  go_ret2
  exact ⟨rfl, rfl⟩
set_option maxHeartbeats 8000000 in
set_option maxRecDepth 100000 in
theorem mul_small (w : World) {x y : Nat} (hx : x < 65536) (hy : y < 65536) : Calls Tryz.prog 18 #[.int .i64 (x : Int), .int .i64 (y : Int)] w fun e w' => e = .returned (.tuple #[.int .i64 ((x * y : Nat) : Int), .int .i64 0]) ∧ w = w' := by
  have hxy : x * y ≤ 65535 * 65535 := Nat.mul_le_mul (by omega) (by omega)
  have HX := Lib.hid (mag_nat w (n := x) (by omega))
  have HY := Lib.hid (mag_nat w (n := y) (by omega))
  have HM := Lib.hid (mul64_small w hx hy)
  obtain ⟨z, hz⟩ : ∃ z, z = x * y := ⟨_, rfl⟩
  rw [← hz] at hxy HM ⊢
  have e1 : ((x : Int) < 0) = False := eq_false (by omega)
  have e2 : ((y : Int) < 0) = False := eq_false (by omega)
  have e3 : ((9223372036854775807 : Int) < (z : Int)) = False := eq_false (by omega)
  have w0 : IntKind.i64.wrap (z : Int) = (z : Int) := IntWalk.i64_in _ (by omega)
  clear hz hx hy
  go_enter Tryz.func18, Tryz.ntmps18
  go_wp2_with fail
  with_reducible refine HX.out.mono ?_
  rintro e w1 ⟨rfl, rfl⟩
  go_wp2_with fail
  with_reducible refine HY.out.mono ?_
  rintro e w1 ⟨rfl, rfl⟩
  go_wp2_with fail
  with_reducible refine HM.out.mono ?_
  rintro e w1 ⟨rfl, rfl⟩
  go_wp2
  go_ret2
  exact ⟨rfl, rfl⟩
theorem cz_tiny {n m : Nat} (hn : n ≤ 7) (hm : m ≤ 3) : cz n (m : Int) < 100 := by
  have h : ∀ n, n < 8 → ∀ m, m < 4 → cz n ((m : Nat) : Int) < 100 := by decide +kernel
  exact h n (by omega) m (by omega)
set_option maxHeartbeats 8000000 in
set_option maxRecDepth 100000 in
theorem mcount_tg (w : World) {m n b c x : Nat} {D : Option Addr} {T k : Nat} {P Q : Nat → Nat} (hm0 : 1 ≤ m) (hm : m ≤ 3) (hmx : m + x ≤ n) (hn : n ≤ 7) (hx : x ≤ 1) (hb : b = 0 ∧ c = 0 ∨ b = 1 ∧ 1 ≤ c ∧ c ≤ 3) (hD : Cells w D (T * 6) (Six P Q)) (hT : 1 ≤ T) (hT2 : T ≤ 7) (hk : T ≤ k) (hP : ∀ i, i < T → P i ≤ m ∧ Q i ≤ b ∧ 0 < P i + Q i) (hd : ∀ j i, j < i → i < T → P i < P j ∨ P i = P j ∧ Q i < Q j) : Calls Tryz.prog 5 #[.agg (tg m n b c x D T k)] w fun e w' => e = .returned (.tuple #[.int .i64 ((cz n (m : Int) * cz c (b : Int) : Nat) : Int), .int .i64 0]) ∧ Below w.heap.size w w' := by
  have HK := Lib.hid (fun (w : World) (hD : Cells w D (T * 6) (Six P Q)) => check_tg w hm0 hm hmx hn hx hb hD hT hT2 hk hP hd)
  have hc3 : c ≤ 3 := by omega
  have hb3 : b ≤ 1 := by omega
  have HC1 := Lib.hid (fun (w : World) => count_any w (n := n) (by omega) (m : Int) (Nat.lt_trans (cz_tiny hn hm) (by omega)))
  have HC2 := Lib.hid (fun (w : World) => count_any w (n := c) (by omega) (b : Int) (Nat.lt_trans (cz_tiny (by omega) (by omega)) (by omega)))
  have HU := Lib.hid (fun (w : World) => mul_small w (x := cz n (m : Int)) (y := cz c (b : Int)) (Nat.lt_trans (cz_tiny hn hm) (by omega)) (Nat.lt_trans (cz_tiny (by omega) (by omega)) (by omega)))
  unfold tg at HK
  have HD := Lib.hid hD
  clear hP hd hD hb hm0 hm hmx hn hx hT hT2 hk hc3 hb3
  have BS0 := Lib.hid ((Fr.Bs.nil w).alloc TG (tg m n b c x D T k))
  unfold tg at BS0 ⊢
  go_enter Tryz.func5, Tryz.ntmps5
  go_upto_region 1 with (fail)
  obtain ⟨wa, hwa⟩ : ∃ wa, wa = (w.alloc (.cells #[.string lotto, .int .i64 1, .int .i64 200, .int .i64 (m : Int), .int .i64 (n : Int), .int .i64 (b : Int), .int .i64 (c : Int), .int .i64 (x : Int), .int .i64 4, .int .i64 (m : Int), .int .i64 32, .int .i64 1230, .int .i64 30, .int .i64 15, .int .i64 90, .int .i64 5000, .int .i64 0, .int .i64 1, .int .i64 0, .int .i64 0, .slice none 0 0, .slice D T k] TG)) := ⟨_, rfl⟩
  change Code.wp _ _ _ _ (w.alloc (.cells #[.string lotto, .int .i64 1, .int .i64 200, .int .i64 (m : Int), .int .i64 (n : Int), .int .i64 (b : Int), .int .i64 (c : Int), .int .i64 (x : Int), .int .i64 4, .int .i64 (m : Int), .int .i64 32, .int .i64 1230, .int .i64 30, .int .i64 15, .int .i64 90, .int .i64 5000, .int .i64 0, .int .i64 1, .int .i64 0, .int .i64 0, .slice none 0 0, .slice D T k] TG))
  rw [← hwa] at BS0 ⊢
  have HB := Lib.hid BS0.out.below
  obtain ⟨_, lg, kg⟩ := BS0.out.get (.head _)
  obtain ⟨gb, hgb⟩ : ∃ g, g = w.heap.size := ⟨_, rfl⟩
  rw [← hgb] at kg lg
  rw [show (Value.pointer (some ⟨w.heap.size, 0, none⟩)) = .pointer (some ⟨gb, 0, none⟩) by rw [hgb]]
  clear hwa hgb
  have KG := Lib.hid kg
  clear kg
  go_wp2_with (refine wpList_load_row rfl TG _ rfl gb rfl TG _ (0, 0) _ KG.out Tryz.underlying27 rfl (by kernel_rfl) ?_)
  go_wp2_with fail
  with_reducible refine (HK.out _ (HD.out.below HB.out)).mono ?_
  rintro e w1 ⟨rfl, hb1⟩
  replace HB := Lib.hid (Below.on HB.out hb1)
  replace KG := Lib.hid (KG.out.keep hb1)
  clear hb1
  have g1 : w1.cell? ⟨gb, 1, none⟩ = some (.int .i64 1) := KG.out.cell 1
  have g3 : w1.cell? ⟨gb, 3, none⟩ = some (.int .i64 (m : Int)) := KG.out.cell 3
  have g4 : w1.cell? ⟨gb, 4, none⟩ = some (.int .i64 (n : Int)) := KG.out.cell 4
  go_wp2_with fail
  with_reducible refine (HC1.out _).mono ?_
  rintro e w2 ⟨rfl, hb1⟩
  replace HB := Lib.hid (Below.on HB.out hb1)
  replace KG := Lib.hid (KG.out.keep hb1)
  clear hb1 g1 g3 g4
  have g5 : w2.cell? ⟨gb, 5, none⟩ = some (.int .i64 (b : Int)) := KG.out.cell 5
  have g6 : w2.cell? ⟨gb, 6, none⟩ = some (.int .i64 (c : Int)) := KG.out.cell 6
  go_wp2_with fail
  with_reducible refine (HC2.out _).mono ?_
  rintro e w3 ⟨rfl, hb1⟩
  replace HB := Lib.hid (Below.on HB.out hb1)
  clear hb1 g5 g6
  go_wp2_with fail
  with_reducible refine (HU.out _).mono ?_
  rintro e w4 ⟨rfl, hw4⟩
  obtain rfl := hw4
  go_wp2
  go_ret2
  exact ⟨rfl, HB.out⟩
end Tp
end Go.Proofs.YtdcmpnjhomhhiaaGreat
