/- The walks of the reference's Same, and of the law's fractions of small numbers. -/
import Derived.Test.YtiflmnmkmpjecaaFrOf
set_option linter.unusedVariables false
namespace Go.Proofs.Ytiflmnmkmpjecaa
open Go.RowKit
namespace Fr
theorem num_eq {x y : Nat} (h : L32 x = L32 y) (hd : ∀ j, j < L32 x → d32 x j = d32 y j) : x = y := by
  have h1 := Nt.dig_ext (b := 4294967296) (by omega) (x := x) (y := y) (L32 x) hd
  have h2 := fit32_len x
  have h3 := fit32_len y
  rw [← h] at h3
  unfold Fit32 at h2 h3
  rw [Nat.mod_eq_of_lt h2, Nat.mod_eq_of_lt h3] at h1
  exact h1
theorem all_next {x y k : Nat} (h : ∀ j, j < k → d32 x j = d32 y j) (hk : d32 x k = d32 y k) : ∀ j, j < k + 1 → d32 x j = d32 y j := fun j hj => by
  by_cases e : j = k
  · rw [e]; exact hk
  · exact h j (by omega)
set_option maxHeartbeats 2000000 in
theorem limbs_any {D E : Option Addr} {n m c c' x y : Nat} {w : World} (hn : n ≤ 1000) (hm : m ≤ 1000) (hnx : n = L32 x) (hmy : m = L32 y) (hx : Cells w D n (Lm (d32 x))) (hy : Cells w E m (Lm (d32 y))) :
    Calls Try.prog 43 #[.slice D n c, .slice E m c'] w fun e w' => e = .returned (.bool (decide (x = y))) ∧ Below w.heap.size w w' := by
  by_cases hnm : n = m
  · subst hnm
    have HE := Lib.hid (fun (h : ∀ j, j < n → d32 x j = d32 y j) => num_eq (x := x) (y := y) (by omega) (by rw [← hnx]; exact h))
    have h0 : ((n : Int) != (n : Int)) = false := by simp
    clear hnx hmy
    go_enter Try.func43, Try.ntmps43
    go_wp2
    go_loopw [5] (fun i wr => ∃ k : Nat, k ≤ n ∧ i = .int .i64 (k : Int) ∧ Hid (∀ j, j < k → d32 x j = d32 y j) ∧ Hid (Below w.heap.size w wr)) (fun i _ => n - (intOf i).toNat)
    case atStart => exact ⟨0, Nat.zero_le _, rfl, fun j hj => absurd hj (by omega), Below.refl _ _⟩
    case round =>
      obtain ⟨k, hk, rfl, HA, HB⟩ := hrel
      by_cases hkn : k < n
      · obtain ⟨b1, o1, rfl, hlt1, hc1⟩ := (hx.below HB.out).lm hkn
        obtain ⟨b2, o2, rfl, hlt2, hc2⟩ := (hy.below HB.out).lm hkn
        by_cases hd : d32 x k = d32 y k
        · have e1 : ((d32 x k : Int) != (d32 y k : Int)) = false := by simp [hd]
          have e2 : (d32 x k != d32 y k) = false := by simp [hd]
          have HA2 := Lib.hid (all_next HA.out hd)
          clear hd
          go_wp2
          go_quiet (fail)
          go_wp2
          go_roundw
          case rel => exact ⟨k + 1, by omega, by go_num, HA2, below_drewN HB.out _⟩
          case measure => simp [intOf]; omega
        · have e1 : ((d32 x k : Int) != (d32 y k : Int)) = true := by simp; omega
          have e2 : (d32 x k != d32 y k) = true := by simp; omega
          have HF : Hid (decide (x = y) = false) := Lib.hid (decide_eq_false (fun e => hd (by rw [e])))
          clear hd
          go_wp2
          go_quiet (fail)
          go_wp2
          go_ret
          exact ⟨by rw [HF.out]; rfl, below_drewN HB.out _⟩
      · obtain rfl : k = n := by omega
        have HF : Hid (decide (x = y) = true) := Lib.hid (decide_eq_true (HE.out HA.out))
        go_wp2
        go_ret
        exact ⟨by rw [HF.out]; rfl, HB.out⟩
  · have h0 : ((n : Int) != (m : Int)) = true := by simp; omega
    have HF : Hid (decide (x = y) = false) := Lib.hid (decide_eq_false (fun e => hnm (by rw [hnx, hmy, e])))
    clear hnx hmy hnm
    go_enter Try.func43, Try.ntmps43
    go_wp2
    go_ret
    exact ⟨by rw [HF.out]; rfl, Below.refl _ _⟩
set_option maxHeartbeats 2000000 in
theorem same_any {D0 D1 D2 D3 : Option Addr} {n0 n1 n2 n3 c0 c1 c2 c3 x0 x1 x2 x3 : Nat} {w : World} (hn0 : n0 ≤ 1000) (hn1 : n1 ≤ 1000) (hn2 : n2 ≤ 1000) (hn3 : n3 ≤ 1000) (h0 : n0 = L32 x0) (h1 : n1 = L32 x1) (h2 : n2 = L32 x2) (h3 : n3 = L32 x3)
    (hx0 : Cells w D0 n0 (Lm (d32 x0))) (hx1 : Cells w D1 n1 (Lm (d32 x1))) (hx2 : Cells w D2 n2 (Lm (d32 x2))) (hx3 : Cells w D3 n3 (Lm (d32 x3))) :
    Calls Try.prog 17 #[fv D0 n0 c0 D1 n1 c1, fv D2 n2 c2 D3 n3 c3] w fun e w' => e = .returned (.bool (decide (x0 = x2) && decide (x1 = x3))) ∧ Below w.heap.size w w' := by
  have H0 := Lib.hid h0
  have H1 := Lib.hid h1
  have H2 := Lib.hid h2
  have H3 := Lib.hid h3
  have BS0 := Lib.hid (boxes2F w (.slice D0 n0 c0) (.slice D1 n1 c1) (.slice D2 n2 c2) (.slice D3 n3 c3))
  have HK := limbs_any (c := c0) (c' := c2) hn0 hn2 h0 h2 (hx0.below BS0.out.below) (hx2.below BS0.out.below)
  obtain ⟨dd, hdd⟩ : ∃ b, b = decide (x1 = x3) := ⟨_, rfl⟩
  rw [← hdd]
  have HDD := Lib.hid hdd
  clear h0 h1 h2 h3 hdd
  unfold fv
  go_enter Try.func17, Try.ntmps17
  cases hd : decide (x0 = x2) with
  | false =>
    rw [hd] at HK
    have HKH := Lib.hid HK
    clear HK hd
    go_wp2_with fail
    refine HKH.out.mono ?_
    rintro e w1 ⟨rfl, hb1⟩
    have HB := Lib.hid (BS0.out.on hb1).below
    clear hb1
    go_wp2
    go_ret
    exact ⟨rfl, HB.out⟩
  | true =>
    rw [hd] at HK
    have HKH := Lib.hid HK
    clear HK hd
    go_wp2_with fail
    refine HKH.out.mono ?_
    rintro e w1 ⟨rfl, hb1⟩
    have BS1 := Lib.hid (BS0.out.on hb1)
    obtain ⟨_, la, ka⟩ := BS1.out.get (.tail _ (.head _))
    obtain ⟨_, lb, kb⟩ := BS1.out.get (.head _)
    have qa : w1.cell? ⟨w.heap.size, 1, none⟩ = some (.slice D1 n1 c1) := ka.cell 1
    have qb : w1.cell? ⟨w.heap.size + 1, 1, none⟩ = some (.slice D3 n3 c3) := kb.cell 1
    have HK2 := limbs_any (c := c1) (c' := c3) hn1 hn3 H1.out H3.out (hx1.below BS1.out.below) (hx3.below BS1.out.below)
    rw [← HDD.out] at HK2
    have HKH2 := Lib.hid HK2
    clear hb1 ka kb BS0 HK2
    go_wp2_with fail
    refine HKH2.out.mono ?_
    rintro e w2 ⟨rfl, hb2⟩
    have HB := Lib.hid (BS1.out.on hb2).below
    clear hb2
    go_wp2
    go_ret
    exact ⟨by simp, HB.out⟩
end Fr
end Go.Proofs.Ytiflmnmkmpjecaa
