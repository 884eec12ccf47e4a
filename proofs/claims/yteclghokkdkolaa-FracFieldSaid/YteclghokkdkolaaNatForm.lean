/- The walks of nat.trimmed, nat.Valid, nat.compare and of their references. -/
import Derived.Test.YteclghokkdkolaaNatBase
set_option linter.unusedVariables false
namespace Go.Proofs.Yteclghokkdkolaa
open Go.RowKit

set_option maxHeartbeats 400000 in
theorem trimmed_any {D : Option Addr} {m c N : Nat} {w : World} (hm : m ≤ 9223372036854775807) (hmc : m ≤ c) (hN : Fit32 N m) (h : Cells w D m (Lm (d32 N))) :
    Calls Try.prog 68 #[.slice D m c] w fun e w' => ∃ D' c', e = .returned (natv D' (L32 N) c') ∧ L32 N ≤ c' ∧ Cells w' D' (L32 N) (Lm (d32 N)) ∧ Below w.heap.size w w' ∧ (D' = none ∨ D' = D) := by
  have HN := Lib.hid hN
  clear hN
  go_enter Try.func68, Try.ntmps68
  go_wp2
  go_loop [3] (fun i => ∃ k : Nat, k ≤ m ∧ i = .int .i64 k ∧ Hid (Fit32 N k)) (fun i => (intOf i).toNat)
  case atStart => exact ⟨m, Nat.le_refl _, rfl, HN⟩
  case round =>
    obtain ⟨k, hk, rfl, HK⟩ := hrel
    by_cases hk0 : 0 < k
    · obtain ⟨b, off, rfl, hlt, hc⟩ := h.lm (k := k - 1) (by omega)
      have hd0 := d32_lt N (k - 1)
      by_cases hd : d32 N (k - 1) = 0
      · have HK2 := Lib.hid (fit32_down hk0 HK.out hd)
        rw [hd] at hc
        clear hd hd0
        go_wp2
        go_round
        case rel => exact ⟨k - 1, by omega, by go_num, HK2⟩
        case measure => simp [intOf]; omega
      · have hL := Lib.hid (len32_end HK.out (.inr hd))
        have hp : 0 < (d32 N (k - 1) : Int) := by omega
        clear hd
        go_wp2
        refine bodyPost_ret (v := natv (some ⟨b, off, none⟩) k k) (by unfold natv; simp [results, Try.results68, go_sem]) rfl ?_
        rw [hL.out]
        refine ⟨_, _, rfl, Nat.le_refl _, (h.below ?_).sub hk, ?_, .inr rfl⟩ <;> exact (Below.refl _ _).alloc (Nat.le_refl _) _
    · obtain rfl : k = 0 := by omega
      have hL := Lib.hid (len32_end HK.out (.inl rfl))
      clear hk0
      go_wp2
      refine bodyPost_ret (v := natv none 0 0) (by unfold natv; simp [results, Try.results68, go_sem]) rfl ?_
      rw [hL.out]
      exact ⟨_, _, rfl, Nat.le_refl _, Cells.nil, (Below.refl _ _).alloc (Nat.le_refl _) _, .inl rfl⟩

set_option maxHeartbeats 400000 in
theorem nvalid_is {D : Option Addr} {n c : Nat} {f : Nat → Nat} {x : Bool} {w : World} (hn : n ≤ 9223372036854775807) (h : Cells w D n (Lm f)) (hx : vd n f = x) :
    Calls Try.prog 36 #[natv D n c] w fun e w' => e = .returned (.bool x) ∧ Below w.heap.size w w' := by
  subst hx
  unfold natv
  by_cases h64 : n ≤ 64
  · by_cases h0 : n = 0
    · subst h0
      have hv := Lib.hid (show vd 0 f = true from rfl)
      go_enter Try.func36, Try.ntmps36
      go_wp2
      go_ret
      exact ⟨ret_bool hv.out.symm, (Below.refl _ _).alloc (Nat.le_refl _) _⟩
    · obtain ⟨b, off, rfl, hlt, hc⟩ := h.lm (k := n - 1) (by omega)
      have h0n : ((n : Int) == 0) = false := by simp; omega
      cases hf : (f (n - 1) == 0) with
      | true =>
        have hf0 : f (n - 1) = 0 := by simpa using hf
        have hv := Lib.hid (show vd n f = false by unfold vd; rw [hf0]; simp; omega)
        rw [hf0] at hc
        clear hf hf0
        go_enter Try.func36, Try.ntmps36
        go_wp2
        go_ret
        exact ⟨ret_bool hv.out.symm, (Below.refl _ _).alloc (Nat.le_refl _) _⟩
      | false =>
        have hf0 : f (n - 1) ≠ 0 := by simpa using hf
        have hv := Lib.hid (show vd n f = true by unfold vd; simp [hf0, h64])
        have hp : ((f (n - 1) : Nat) : Int) ≠ 0 := by omega
        clear hf hf0
        go_enter Try.func36, Try.ntmps36
        go_wp2
        go_ret
        exact ⟨ret_bool (by rw [hv.out]; simp; omega), (Below.refl _ _).alloc (Nat.le_refl _) _⟩
  · have hv := Lib.hid (show vd n f = false by unfold vd; simp [h64])
    go_enter Try.func36, Try.ntmps36
    go_wp2
    go_ret
    exact ⟨ret_bool hv.out.symm, (Below.refl _ _).alloc (Nat.le_refl _) _⟩
/-- -1, 0, 1. -/
def cmpI (x y : Nat) : Int := if x < y then -1 else if y < x then 1 else 0
def Top32 (x y k : Nat) : Prop := x / 4294967296 ^ k = y / 4294967296 ^ k
theorem top32_eq {x y k : Nat} (h : Top32 x y (k + 1)) (hd : d32 x k = d32 y k) : Top32 x y k := Nt.cmp_eq h hd
theorem top32_lt {x y k : Nat} (h : Top32 x y (k + 1)) (hd : d32 x k < d32 y k) : x < y := Nt.cmp_lt h hd
theorem top32_gt {x y k : Nat} (h : Top32 x y (k + 1)) (hd : d32 y k < d32 x k) : y < x := Nt.cmp_lt h.symm hd
theorem top32_end {x y : Nat} (h : Top32 x y 0) : x = y := by simpa [Top32] using h
theorem top32_start {x y n : Nat} (hx : Fit32 x n) (hy : Fit32 y n) : Top32 x y n := by
  unfold Top32; rw [Nat.div_eq_of_lt hx, Nat.div_eq_of_lt hy]
theorem cmp_ltI {x y : Nat} (h : x < y) : cmpI x y = -1 := by unfold cmpI; rw [if_pos h]
theorem cmp_gtI {x y : Nat} (h : y < x) : cmpI x y = 1 := by unfold cmpI; rw [if_neg (by omega), if_pos h]
theorem cmp_eqI {x y : Nat} (h : x = y) : cmpI x y = 0 := by unfold cmpI; rw [if_neg (by omega), if_neg (by omega)]

set_option maxHeartbeats 1000000 in
theorem compare_any {D E : Option Addr} {n m c c' x y : Nat} {w : World} (hn : n ≤ 9223372036854775807) (hm : m ≤ 9223372036854775807) (hnx : n = L32 x) (hmy : m = L32 y) (hx : Cells w D n (Lm (d32 x))) (hy : Cells w E m (Lm (d32 y))) :
    Calls Try.prog 66 #[.slice D n c, .slice E m c'] w fun e w' => e = .returned (.int .i64 (cmpI x y)) ∧ Below w.heap.size w w' := by
  have HX := Lib.hid hnx
  have HY := Lib.hid hmy
  clear hnx hmy
  by_cases hlt : n < m
  · have hc := Lib.hid (cmp_ltI (Nt.lt_of_len (b := 4294967296) (by omega) (show L32 x < L32 y by rw [← HX.out, ← HY.out]; exact hlt)))
    go_enter Try.func66, Try.ntmps66
    go_wp2
    go_ret
    exact ⟨ret_int hc.out.symm, Below.refl _ _⟩
  by_cases hgt : m < n
  · have hc := Lib.hid (cmp_gtI (Nt.lt_of_len (b := 4294967296) (by omega) (show L32 y < L32 x by rw [← HX.out, ← HY.out]; exact hgt)))
    go_enter Try.func66, Try.ntmps66
    go_wp2
    go_ret
    exact ⟨ret_int hc.out.symm, Below.refl _ _⟩
  obtain rfl : n = m := by omega
  clear hlt hgt
  have hst := Lib.hid (top32_start (x := x) (y := y) (n := n) (by rw [HX.out]; exact fit32_len x) (by rw [HY.out]; exact fit32_len y))
  go_enter Try.func66, Try.ntmps66
  go_wp2
  go_loopw [5] (fun i wr => ∃ k : Nat, k ≤ n ∧ i = .int .i64 ((k : Int) - 1) ∧ Hid (Top32 x y k) ∧ Below w.heap.size w wr) (fun i _ => (intOf i + 1).toNat)
  case atStart => exact ⟨n, Nat.le_refl _, rfl, hst, Below.refl _ _⟩
  case round =>
    obtain ⟨k, hk, rfl, HK, hb⟩ := hrel
    by_cases hk0 : 0 < k
    · obtain ⟨j, rfl⟩ : ∃ j, k = j + 1 := ⟨k - 1, by omega⟩
      have ej : ((j + 1 : Nat) : Int) - 1 = (j : Int) := by omega
      rw [ej]
      clear ej
      obtain ⟨b1, off1, rfl, hlt1, hc1⟩ := (hx.below hb).lm (k := j) (by omega)
      obtain ⟨b2, off2, rfl, hlt2, hc2⟩ := (hy.below hb).lm (k := j) (by omega)
      have hd1 := d32_le x j
      have hd2 := d32_le y j
      have hj0 : (0 : Int) ≤ (j : Int) := by omega
      have hjn : (j : Int) < (n : Int) := by omega
      rcases Nat.lt_trichotomy (d32 x j) (d32 y j) with hd | hd | hd
      · have hc := Lib.hid (cmp_ltI (top32_lt HK.out hd))
        have hdd : decide (d32 x j < d32 y j) = true := by simp; omega
        clear hd
        go_wp2
        go_quiet (fail)
        go_wp2
        go_ret
        exact ⟨ret_int hc.out.symm, below_drewN hb _⟩
      · have HK2 := Lib.hid (top32_eq HK.out hd)
        have hdd : decide (d32 x j < d32 y j) = false := by simp; omega
        have hde : decide (d32 y j < d32 x j) = false := by simp; omega
        clear hd
        go_wp2
        go_quiet (fail)
        go_wp2
        go_quiet (fail)
        go_wp2
        go_roundw
        case rel => exact ⟨j, by omega, by go_num, HK2, below_drewN hb _⟩
        case measure => simp [intOf]
      · have hc := Lib.hid (cmp_gtI (top32_gt HK.out hd))
        have hdd : decide (d32 x j < d32 y j) = false := by simp; omega
        have hde : decide (d32 y j < d32 x j) = true := by simp; omega
        clear hd
        go_wp2
        go_quiet (fail)
        go_wp2
        go_quiet (fail)
        go_wp2
        go_ret
        exact ⟨ret_int hc.out.symm, below_drewN (below_drewN hb _) _⟩
    · obtain rfl : k = 0 := by omega
      have hc := Lib.hid (cmp_eqI (top32_end HK.out))
      clear hk0
      go_wp2
      go_ret
      exact ⟨ret_int hc.out.symm, hb⟩
end Go.Proofs.Yteclghokkdkolaa
