/- The walks of nat.Uint and of its reference. -/
import Derived.Test.YthjbkadhgcjnaaaNatOf
set_option linter.unusedVariables false
namespace Go.Proofs.Ythjbkadhgcjnaaa
open Go.RowKit

theorem or_two (a b : Nat) (ha : a < 4294967296) (hb : b < 4294967296) : bits .or .u64 (a : Int) ((b : Int) * 4294967296) = ((a + b * 4294967296 : Nat) : Int) := by
  have h := Go.bits_or_u64_nat a (b * 4294967296) (by omega) (by omega)
  have h2 := Nat.two_pow_add_eq_or_of_lt (i := 32) (b := a) (by omega) b
  rw [show (2 : Nat) ^ 32 = 4294967296 by rfl] at h2
  rw [show ((b : Int) * 4294967296) = ((b * 4294967296 : Nat) : Int) by omega, h, Nat.or_comm, Nat.mul_comm, ← h2]
  omega

theorem or_zero (a : Nat) (ha : a < 4294967296) : bits .or .u64 0 (a : Int) = (a : Int) := by
  have h := Go.bits_or_u64_nat 0 a (by omega) (by omega)
  rw [Nat.zero_or] at h
  exact h
theorem ret_uintb {a b : Int} {t : Bool} (h : a = b) : Ending.returned (.tuple #[.int .u64 a, .bool t]) = .returned (.tuple #[.int .u64 b, .bool t]) := by rw [h]

set_option maxHeartbeats 1000000 in
set_option maxRecDepth 100000 in
theorem uint_yes {D : Option Addr} {n c N : Nat} {w : World} (hn : n ≤ 2) (hN : N < 18446744073709551616) (hnx : n = L32 N) (hx : Cells w D n (Lm (d32 N))) :
    Calls Try.prog 15 #[natv D n c] w fun e w' => e = .returned (.tuple #[.int .u64 (N : Int), .bool true]) ∧ Below w.heap.size w w' := by
  have hv := Lib.hid (vd_true (by omega) hnx)
  obtain ⟨e0, e1⟩ := two_digits hN
  have hd0 := d32_lt N 0
  have hd1 := d32_lt N 1
  have E0 := Lib.hid e0
  have E1 := Lib.hid e1
  have HL := Lib.hid hnx
  clear hnx e0 e1
  unfold natv
  have HB0 := Lib.hid ((Below.refl w.heap.size w).alloc (Nat.le_refl _) (.cells #[.slice D n c] 24))
  have HK0 := Lib.hid (Blk.new w 24 #[.slice D n c])
  go_enter Try.func15, Try.ntmps15
  go_wp2_with fail
  refine (nvalid_is (by omega) (hx.below HB0.out) hv.out).mono ?_
  rintro e w1 ⟨rfl, hb1⟩
  have HB1 := Lib.hid (Below.on HB0.out hb1)
  have HK1 := Lib.hid (HK0.out.keep hb1)
  have q0 : w1.cell? ⟨w.heap.size, 0, none⟩ = some (.slice D n c) := HK1.out.cell 0
  have hlt := HK1.out.lt
  have hx1 := Lib.hid (hx.below HB1.out)
  clear hb1 HB0 HK0
  have hcases : n = 0 ∨ n = 1 ∨ n = 2 := by omega
  rcases hcases with rfl | rfl | rfl
  · have hz := Lib.hid (L32_zero.1 HL.out.symm)
    go_wp2
    refine wp_loop_rounds 1 ?_
    rw [rounds_succ]
    go_wp2
    go_ret2
    exact ⟨by rw [hz.out]; rfl, HB1.out⟩
  · obtain ⟨b, off, rfl, hlt1, hc1⟩ := hx1.out.lm (show 0 < 1 by omega)
    have hc1 : w1.cell? ⟨b, off, none⟩ = some (.int .u32 (d32 N 0 : Int)) := hc1
    go_wp2
    refine wp_loop_rounds 2 ?_
    rw [rounds_succ]
    go_wp2
    rw [rounds_succ]
    go_wp2
    go_ret2
    exact ⟨ret_uintb (by rw [or_zero _ hd0, E0.out]; have : Fit32 N 1 := (by rw [HL.out]; exact fit32_len N); have : N < 4294967296 ^ 1 := this; omega), HB1.out⟩
  · obtain ⟨b, off, rfl, hlt1, hc1⟩ := hx1.out.lm (show 0 < 2 by omega)
    obtain ⟨b2, off2, hbo, hlt2, hc2⟩ := hx1.out.lm (show 1 < 2 by omega)
    injection hbo with hbo
    injection hbo with hbo1 hbo2
    subst hbo1 hbo2
    have hc1 : w1.cell? ⟨b, off, none⟩ = some (.int .u32 (d32 N 0 : Int)) := hc1
    go_wp2
    refine wp_loop_rounds 3 ?_
    rw [rounds_succ]
    go_wp2
    rw [rounds_succ]
    go_wp2
    rw [rounds_succ]
    go_wp2
    go_ret2
    exact ⟨ret_uintb (by rw [or_zero _ hd0, or_two _ _ hd0 hd1, E0.out, E1.out]; omega), HB1.out⟩

set_option maxHeartbeats 400000 in
theorem uint_no {D : Option Addr} {n c : Nat} {f : Nat → Nat} {w : World} (hn : n ≤ 9223372036854775807) (hx : Cells w D n (Lm f)) (hv : vd n f = false ∨ vd n f = true ∧ 2 < n) :
    Calls Try.prog 15 #[natv D n c] w fun e w' => e = .returned (.tuple #[.int .u64 0, .bool false]) ∧ Below w.heap.size w w' := by
  unfold natv
  have HB0 := Lib.hid ((Below.refl w.heap.size w).alloc (Nat.le_refl _) (.cells #[.slice D n c] 24))
  have HK0 := Lib.hid (Blk.new w 24 #[.slice D n c])
  rcases hv with hv | ⟨hv, hn2⟩
  · have HV := Lib.hid hv
    clear hv
    go_enter Try.func15, Try.ntmps15
    go_wp2_with fail
    refine (nvalid_is hn (hx.below HB0.out) HV.out).mono ?_
    rintro e w1 ⟨rfl, hb1⟩
    have HB1 := Lib.hid (Below.on HB0.out hb1)
    clear hb1
    go_wp2
    go_ret2
    exact ⟨rfl, HB1.out⟩
  · have HV := Lib.hid hv
    clear hv
    go_enter Try.func15, Try.ntmps15
    go_wp2_with fail
    refine (nvalid_is hn (hx.below HB0.out) HV.out).mono ?_
    rintro e w1 ⟨rfl, hb1⟩
    have HB1 := Lib.hid (Below.on HB0.out hb1)
    have HK1 := Lib.hid (HK0.out.keep hb1)
    have q0 : w1.cell? ⟨w.heap.size, 0, none⟩ = some (.slice D n c) := HK1.out.cell 0
    clear hb1
    go_wp2
    go_ret2
    exact ⟨rfl, HB1.out⟩

set_option maxHeartbeats 1000000 in
set_option maxRecDepth 100000 in
theorem refUint_yes {D : Option Addr} {n c N : Nat} {w : World} (hn : n ≤ 2) (hN : N < 18446744073709551616) (hnx : n = L32 N) (hx : Cells w D n (Lm (d32 N))) :
    Calls Try.prog 16 #[natv D n c] w fun e w' => e = .returned (.tuple #[.int .u64 (N : Int), .bool true]) ∧ Below w.heap.size w w' := by
  have hv := Lib.hid (vd_true (by omega) hnx)
  obtain ⟨e0, e1⟩ := two_digits hN
  have hd0 := d32_lt N 0
  have hd1 := d32_lt N 1
  have E0 := Lib.hid e0
  have E1 := Lib.hid e1
  have HL := Lib.hid hnx
  clear hnx e0 e1
  unfold natv
  have HB0 := Lib.hid ((Below.refl w.heap.size w).alloc (Nat.le_refl _) (.cells #[.slice D n c] 24))
  have HK0 := Lib.hid (Blk.new w 24 #[.slice D n c])
  go_enter Try.func16, Try.ntmps16
  go_wp2_with fail
  refine (rvalid_is (by omega) (hx.below HB0.out) hv.out).mono ?_
  rintro e w1 ⟨rfl, hb1⟩
  have HB1 := Lib.hid (Below.on HB0.out hb1)
  have HK1 := Lib.hid (HK0.out.keep hb1)
  have q0 : w1.cell? ⟨w.heap.size, 0, none⟩ = some (.slice D n c) := HK1.out.cell 0
  have hlt := HK1.out.lt
  have hx1 := Lib.hid (hx.below HB1.out)
  clear hb1 HB0 HK0
  have hcases : n = 0 ∨ n = 1 ∨ n = 2 := by omega
  rcases hcases with rfl | rfl | rfl
  · have hz := Lib.hid (L32_zero.1 HL.out.symm)
    go_wp2
    refine wp_loop_rounds 1 ?_
    rw [rounds_succ]
    go_wp2
    go_ret2
    exact ⟨by rw [hz.out]; rfl, HB1.out⟩
  · obtain ⟨b, off, rfl, hlt1, hc1⟩ := hx1.out.lm (show 0 < 1 by omega)
    have hc1 : w1.cell? ⟨b, off, none⟩ = some (.int .u32 (d32 N 0 : Int)) := hc1
    go_wp2
    refine wp_loop_rounds 2 ?_
    rw [rounds_succ]
    go_wp2
    rw [rounds_succ]
    go_wp2
    go_ret2
    exact ⟨ret_uintb (by have : Fit32 N 1 := (by rw [HL.out]; exact fit32_len N); have : N < 4294967296 ^ 1 := this; have := E0.out; omega), HB1.out⟩
  · obtain ⟨b, off, rfl, hlt1, hc1⟩ := hx1.out.lm (show 0 < 2 by omega)
    obtain ⟨b2, off2, hbo, hlt2, hc2⟩ := hx1.out.lm (show 1 < 2 by omega)
    injection hbo with hbo
    injection hbo with hbo1 hbo2
    subst hbo1 hbo2
    have hc1 : w1.cell? ⟨b, off, none⟩ = some (.int .u32 (d32 N 0 : Int)) := hc1
    go_wp2
    refine wp_loop_rounds 3 ?_
    rw [rounds_succ]
    go_wp2
    rw [rounds_succ]
    go_wp2
    rw [rounds_succ]
    go_wp2
    go_ret2
    exact ⟨ret_uintb (by have := E0.out; have := E1.out; omega), HB1.out⟩

set_option maxHeartbeats 400000 in
theorem refUint_no {D : Option Addr} {n c : Nat} {f : Nat → Nat} {w : World} (hn : n ≤ 9223372036854775807) (hx : Cells w D n (Lm f)) (hv : vd n f = false ∨ vd n f = true ∧ 2 < n) :
    Calls Try.prog 16 #[natv D n c] w fun e w' => e = .returned (.tuple #[.int .u64 0, .bool false]) ∧ Below w.heap.size w w' := by
  unfold natv
  have HB0 := Lib.hid ((Below.refl w.heap.size w).alloc (Nat.le_refl _) (.cells #[.slice D n c] 24))
  have HK0 := Lib.hid (Blk.new w 24 #[.slice D n c])
  rcases hv with hv | ⟨hv, hn2⟩
  · have HV := Lib.hid hv
    clear hv
    go_enter Try.func16, Try.ntmps16
    go_wp2_with fail
    refine (rvalid_is hn (hx.below HB0.out) HV.out).mono ?_
    rintro e w1 ⟨rfl, hb1⟩
    have HB1 := Lib.hid (Below.on HB0.out hb1)
    clear hb1
    go_wp2
    go_ret2
    exact ⟨rfl, HB1.out⟩
  · have HV := Lib.hid hv
    clear hv
    go_enter Try.func16, Try.ntmps16
    go_wp2_with fail
    refine (rvalid_is hn (hx.below HB0.out) HV.out).mono ?_
    rintro e w1 ⟨rfl, hb1⟩
    have HB1 := Lib.hid (Below.on HB0.out hb1)
    have HK1 := Lib.hid (HK0.out.keep hb1)
    have q0 : w1.cell? ⟨w.heap.size, 0, none⟩ = some (.slice D n c) := HK1.out.cell 0
    clear hb1
    go_wp2
    go_ret2
    exact ⟨rfl, HB1.out⟩

theorem formed_any (w : World) : Calls Try.prog 23 #[] w fun e w' => e = .returned (.bool true) ∧ Below w.heap.size w w' := by
  have hl1 := Lib.hid (L32_one (k := 7) (by omega) (by omega))
  go_enter Try.func23, Try.ntmps23
  go_wp2_with fail
  refine (of_any 7 (by omega) _).mono ?_
  rintro e w1 ⟨D1, c1, rfl, hl, hc1, hb1⟩
  rw [hl1.out] at hl hc1 ⊢
  have HC1 := Lib.hid hc1
  have HB1 := Lib.hid hb1
  clear hb1 hc1
  go_wp2_with fail
  refine (uint_yes (N := 7) (by omega) (by omega) hl1.out.symm HC1.out).mono ?_
  rintro e w2 ⟨rfl, hb2⟩
  have HB2 := Lib.hid (Below.on HB1.out hb2)
  clear hb2
  go_wp2
  go_ret
  exact ⟨rfl, HB2.out⟩
end Go.Proofs.Ythjbkadhgcjnaaa
