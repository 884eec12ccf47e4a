/- The walks of the reference's Valid, cmp, trim, digit and Same. -/
import Derived.Test.YteclghokkdkolaaNatForm
set_option linter.unusedVariables false
namespace Go.Proofs.Yteclghokkdkolaa
open Go.RowKit

set_option maxHeartbeats 400000 in
theorem rtrim_any {D : Option Addr} {m c N : Nat} {w : World} (hm : m ≤ 9223372036854775807) (hmc : m ≤ c) (hN : Fit16 N m) (h : Cells w D m (Dg (d16 N))) :
    Calls Try.prog 87 #[.slice D m c] w fun e w' => e = .returned (.slice D (L16 N) c) ∧ w = w' := by
  have HN := Lib.hid hN
  clear hN
  go_enter Try.func87, Try.ntmps87
  go_wp2
  go_loop [3] (fun i => ∃ k : Nat, k ≤ m ∧ i = .int .i64 k ∧ Hid (Fit16 N k)) (fun i => (intOf i).toNat)
  case atStart => exact ⟨m, Nat.le_refl _, rfl, HN⟩
  case round =>
    obtain ⟨k, hk, rfl, HK⟩ := hrel
    by_cases hk0 : 0 < k
    · obtain ⟨b, off, rfl, hlt, hc⟩ := h.dg (k := k - 1) (by omega)
      have hd0 := d16_lt N (k - 1)
      by_cases hd : d16 N (k - 1) = 0
      · have HK2 := Lib.hid (fit16_down hk0 HK.out hd)
        rw [hd] at hc
        clear hd hd0
        go_wp2
        go_round
        case rel => exact ⟨k - 1, by omega, by go_num, HK2⟩
        case measure => simp [intOf]; omega
      · have hL := Lib.hid (len16_end HK.out (.inr hd))
        have hp : 0 < (d16 N (k - 1) : Int) := by omega
        clear hd
        go_wp2
        go_ret
        rw [hL.out]
        exact ⟨rfl, rfl⟩
    · obtain rfl : k = 0 := by omega
      have hL := Lib.hid (len16_end HK.out (.inl rfl))
      clear hk0
      go_wp2
      go_ret
      rw [hL.out]
      exact ⟨rfl, rfl⟩
theorem rdigit_any {D : Option Addr} {n c i N : Nat} {w : World} (hn : n ≤ 9223372036854775807) (hi : i ≤ 9223372036854775807) (hnl : L16 N ≤ n) (h : Cells w D n (Dg (d16 N))) :
    Calls Try.prog 92 #[.slice D n c, .int .i64 i] w fun e w' => e = .returned (.int .i64 (d16 N i)) ∧ w = w' := by
  have hd0 := d16_lt N i
  by_cases hin : i < n
  · obtain ⟨b, off, rfl, hlt, hc⟩ := h.dg hin
    go_enter Try.func92, Try.ntmps92
    go_wp2
    go_ret
    exact ⟨rfl, rfl⟩
  · have hz := Lib.hid (d16_high (N := N) (j := i) (by omega))
    go_enter Try.func92, Try.ntmps92
    go_wp2
    go_ret
    exact ⟨ret_int (by rw [hz.out]; rfl), rfl⟩
set_option maxHeartbeats 400000 in
theorem rvalid_is {D : Option Addr} {n c : Nat} {f : Nat → Nat} {x : Bool} {w : World} (hn : n ≤ 9223372036854775807) (h : Cells w D n (Lm f)) (hx : vd n f = x) :
    Calls Try.prog 39 #[natv D n c] w fun e w' => e = .returned (.bool x) ∧ Below w.heap.size w w' := by
  subst hx
  unfold natv
  by_cases h64 : n ≤ 64
  · by_cases h0 : n = 0
    · subst h0
      have hv := Lib.hid (show vd 0 f = true from rfl)
      go_enter Try.func39, Try.ntmps39
      go_wp2
      go_ret
      exact ⟨ret_bool hv.out.symm, (Below.refl _ _).alloc (Nat.le_refl _) _⟩
    · obtain ⟨b, off, rfl, hlt, hc⟩ := h.lm (k := n - 1) (by omega)
      have h0n : ((n : Int) == 0) = false := by simp; omega
      cases hf : (f (n - 1) == 0) with
      | true =>
        have hf0 : f (n - 1) = 0 := by simpa using hf
        have hv := Lib.hid (show vd n f = false by unfold vd; rw [hf0]; simp; omega)
        rw [hf0] at hc
        clear hf hf0
        go_enter Try.func39, Try.ntmps39
        go_wp2
        go_ret
        exact ⟨ret_bool hv.out.symm, (Below.refl _ _).alloc (Nat.le_refl _) _⟩
      | false =>
        have hf0 : f (n - 1) ≠ 0 := by simpa using hf
        have hv := Lib.hid (show vd n f = true by unfold vd; simp [hf0, h64])
        have hp : ((f (n - 1) : Nat) : Int) ≠ 0 := by omega
        clear hf hf0
        go_enter Try.func39, Try.ntmps39
        go_wp2
        go_ret
        exact ⟨ret_bool (by rw [hv.out]; simp; omega), (Below.refl _ _).alloc (Nat.le_refl _) _⟩
  · have hv := Lib.hid (show vd n f = false by unfold vd; simp [h64])
    go_enter Try.func39, Try.ntmps39
    go_wp2
    go_ret
    exact ⟨ret_bool hv.out.symm, (Below.refl _ _).alloc (Nat.le_refl _) _⟩
def Top16 (x y k : Nat) : Prop := x / 65536 ^ k = y / 65536 ^ k
theorem top16_eq {x y k : Nat} (h : Top16 x y (k + 1)) (hd : d16 x k = d16 y k) : Top16 x y k := Nt.cmp_eq h hd
theorem top16_lt {x y k : Nat} (h : Top16 x y (k + 1)) (hd : d16 x k < d16 y k) : x < y := Nt.cmp_lt h hd
theorem top16_gt {x y k : Nat} (h : Top16 x y (k + 1)) (hd : d16 y k < d16 x k) : y < x := Nt.cmp_lt h.symm hd
theorem top16_end {x y : Nat} (h : Top16 x y 0) : x = y := by simpa [Top16] using h
theorem top16_start {x y n : Nat} (hx : Fit16 x n) (hy : Fit16 y n) : Top16 x y n := by
  unfold Top16; rw [Nat.div_eq_of_lt hx, Nat.div_eq_of_lt hy]
set_option maxHeartbeats 1000000 in
theorem rcmp_any {D E : Option Addr} {n m c c' x y : Nat} {w : World} (hn : n ≤ 9223372036854775807) (hm : m ≤ 9223372036854775807) (hnx : n = L16 x) (hmy : m = L16 y) (hx : Cells w D n (Dg (d16 x))) (hy : Cells w E m (Dg (d16 y))) :
    Calls Try.prog 72 #[.slice D n c, .slice E m c'] w fun e w' => e = .returned (.int .i64 (cmpI x y)) ∧ Below w.heap.size w w' := by
  have HX := Lib.hid hnx
  have HY := Lib.hid hmy
  clear hnx hmy
  by_cases hlt : n < m
  · have hc := Lib.hid (cmp_ltI (Nt.lt_of_len (b := 65536) (by omega) (show L16 x < L16 y by rw [← HX.out, ← HY.out]; exact hlt)))
    go_enter Try.func72, Try.ntmps72
    go_wp2
    go_ret
    exact ⟨ret_int hc.out.symm, Below.refl _ _⟩
  by_cases hgt : m < n
  · have hc := Lib.hid (cmp_gtI (Nt.lt_of_len (b := 65536) (by omega) (show L16 y < L16 x by rw [← HX.out, ← HY.out]; exact hgt)))
    go_enter Try.func72, Try.ntmps72
    go_wp2
    go_ret
    exact ⟨ret_int hc.out.symm, Below.refl _ _⟩
  obtain rfl : n = m := by omega
  clear hlt hgt
  have hst := Lib.hid (top16_start (x := x) (y := y) (n := n) (by rw [HX.out]; exact fit16_len x) (by rw [HY.out]; exact fit16_len y))
  go_enter Try.func72, Try.ntmps72
  go_wp2
  go_loopw [5] (fun i wr => ∃ k : Nat, k ≤ n ∧ i = .int .i64 ((k : Int) - 1) ∧ Hid (Top16 x y k) ∧ Below w.heap.size w wr) (fun i _ => (intOf i + 1).toNat)
  case atStart => exact ⟨n, Nat.le_refl _, rfl, hst, Below.refl _ _⟩
  case round =>
    obtain ⟨k, hk, rfl, HK, hb⟩ := hrel
    by_cases hk0 : 0 < k
    · obtain ⟨j, rfl⟩ : ∃ j, k = j + 1 := ⟨k - 1, by omega⟩
      have ej : ((j + 1 : Nat) : Int) - 1 = (j : Int) := by omega
      rw [ej]
      clear ej
      obtain ⟨b1, off1, rfl, hlt1, hc1⟩ := (hx.below hb).dg (k := j) (by omega)
      obtain ⟨b2, off2, rfl, hlt2, hc2⟩ := (hy.below hb).dg (k := j) (by omega)
      have hd1 := d16_le x j
      have hd2 := d16_le y j
      have hj0 : (0 : Int) ≤ (j : Int) := by omega
      have hjn : (j : Int) < (n : Int) := by omega
      rcases Nat.lt_trichotomy (d16 x j) (d16 y j) with hd | hd | hd
      · have hc := Lib.hid (cmp_ltI (top16_lt HK.out hd))
        have hdd : decide (d16 x j < d16 y j) = true := by simp; omega
        clear hd
        go_wp2
        go_quiet (fail)
        go_wp2
        go_ret
        exact ⟨ret_int hc.out.symm, below_drewN hb _⟩
      · have HK2 := Lib.hid (top16_eq HK.out hd)
        have hdd : decide (d16 x j < d16 y j) = false := by simp; omega
        have hde : decide (d16 y j < d16 x j) = false := by simp; omega
        clear hd
        go_wp2
        go_quiet (fail)
        go_wp2
        go_quiet (fail)
        go_wp2
        go_roundw
        case rel => exact ⟨j, by omega, by go_num, HK2, below_drewN hb _⟩
        case measure => simp [intOf]
      · have hc := Lib.hid (cmp_gtI (top16_gt HK.out hd))
        have hdd : decide (d16 x j < d16 y j) = false := by simp; omega
        have hde : decide (d16 y j < d16 x j) = true := by simp; omega
        clear hd
        go_wp2
        go_quiet (fail)
        go_wp2
        go_quiet (fail)
        go_wp2
        go_ret
        exact ⟨ret_int hc.out.symm, below_drewN (below_drewN hb _) _⟩
    · obtain rfl : k = 0 := by omega
      have hc := Lib.hid (cmp_eqI (top16_end HK.out))
      clear hk0
      go_wp2
      go_ret
      exact ⟨ret_int hc.out.symm, hb⟩
end Go.Proofs.Yteclghokkdkolaa
