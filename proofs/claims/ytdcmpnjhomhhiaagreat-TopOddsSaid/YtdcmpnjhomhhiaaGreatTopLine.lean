/- The walks of slices.Index, slices.Contains, matrix.inside, repeated, match.common, drum.checkList on small lists. -/
import Derived.Test.YtdcmpnjhomhhiaaGreatTopUnr
set_option linter.unusedVariables false
namespace Go.Proofs.YtdcmpnjhomhhiaaGreat
open Go.RowKit Fr Fa
namespace Tp
/-- v is among the first of f. -/
def hs (f : Nat → Nat) (v : Nat) : Nat → Bool
  | 0 => false
  | k + 1 => hs f v k || f k == v
/-- How many of the first of f are in g. -/
def cm (f g : Nat → Nat) (b : Nat) : Nat → Nat
  | 0 => 0
  | k + 1 => cm f g b k + if hs g (f k) b = true then 1 else 0
theorem hs_at {f : Nat → Nat} {v k : Nat} (h : f k = v) : ∀ {n}, k < n → hs f v n = true
  | 0, hn => by omega
  | n + 1, hn => by
    rw [hs]
    rcases Nat.lt_or_ge k n with h1 | h1
    · rw [hs_at h h1]; rfl
    · obtain rfl : k = n := by omega
      rw [h]; simp
theorem hs_no {f : Nat → Nat} {v k : Nat} (h : hs f v k = false) (hne : f k ≠ v) : hs f v (k + 1) = false := by
  rw [hs, h]; simp [hne]
theorem cm_le {f g : Nat → Nat} {b : Nat} : ∀ k, cm f g b k ≤ k
  | 0 => Nat.le_refl _
  | k + 1 => by have := cm_le (f := f) (g := g) (b := b) k; rw [cm]; split <;> omega
set_option maxHeartbeats 2000000 in
theorem index_any (w : World) {A : Option Addr} {n c : Nat} {f : Nat → Nat} {v : Nat} (hn : n ≤ 1000) (hA : Cells w A n (Dg f)) :
    Calls Tryz.prog 80 #[.slice A n c, .int .i64 (v : Int)] w fun e w' => (∃ i : Int, e = .returned (.int .i64 i) ∧ ((0 ≤ i ∧ hs f v n = true) ∨ (i < 0 ∧ hs f v n = false))) ∧ w' = w := by
  have HR0 : Hid (hs f v 0 = false) := Lib.hid rfl
  go_enter Tryz.func80, Tryz.ntmps80
  go_wp2
  go_loopw [8] (fun i wr => ∃ k : Nat, k ≤ n ∧ i = .int .i64 (k : Int) ∧ Hid (hs f v k = false) ∧ Hid (wr = w)) (fun i _ => n - (intOf i).toNat)
  case atStart => exact ⟨0, Nat.zero_le _, rfl, HR0, Lib.hid rfl⟩
  case round =>
    obtain ⟨k, hk, rfl, HR, HW⟩ := hrel
    by_cases hkn : k < n
    · obtain ⟨b1, o1, rfl, hlt1, hc1⟩ := hA.dg hkn
      rw [← HW.out] at hlt1 hc1
      by_cases hv : f k = v
      · have HY := Lib.hid (hs_at hv hkn)
        have e1 : ((v : Int) == (f k : Int)) = true := by rw [hv]; simp
        have e2 : (v == f k) = true := by rw [hv]; simp
        clear hv
        go_wp2
        go_ret
        exact ⟨⟨k, rfl, .inl ⟨by omega, HY.out⟩⟩, HW.out⟩
      · have HY := Lib.hid (hs_no HR.out hv)
        have e1 : ((v : Int) == (f k : Int)) = false := by simp; omega
        have e2 : (v == f k) = false := by simp; omega
        clear hv
        go_wp2
        go_roundw
        case rel => exact ⟨k + 1, by omega, by first | rfl | simp, HY, HW⟩
        case measure => simp [intOf]; omega
    · obtain rfl : k = n := by omega
      go_wp2
      go_ret
      exact ⟨⟨-1, rfl, .inr ⟨by omega, HR.out⟩⟩, HW.out⟩
set_option maxHeartbeats 2000000 in
theorem contains_any (w : World) {A : Option Addr} {n c : Nat} {f : Nat → Nat} {v : Nat} (hn : n ≤ 1000) (hA : Cells w A n (Dg f)) :
    Calls Tryz.prog 63 #[.slice A n c, .int .i64 (v : Int)] w fun e w' => e = .returned (.bool (hs f v n)) ∧ w' = w := by
  have HI := Lib.hid (index_any (c := c) (v := v) w hn hA)
  clear hA
  go_enter Tryz.func63, Tryz.ntmps63
  go_wp2_with fail
  with_reducible refine HI.out.mono ?_
  rintro e w1 ⟨⟨i, rfl, h⟩, rfl⟩
  rcases h with ⟨h1, h2⟩ | ⟨h1, h2⟩
  · have H2 := Lib.hid h2
    clear h2
    go_wp2
    go_ret
    exact ⟨by rw [H2.out]; simp, rfl⟩
  · have H2 := Lib.hid h2
    have h3 : (0 ≤ i) = False := eq_false (by omega)
    clear h2
    go_wp2
    go_ret
    exact ⟨by rw [H2.out]; simp, rfl⟩
set_option maxHeartbeats 2000000 in
theorem inside_yes (w : World) {A : Option Addr} {n c : Nat} {f : Nat → Nat} {M : Nat} (hn : n ≤ 1000) (hA : Cells w A n (Dg f)) (hf : ∀ k, k < n → 1 ≤ f k ∧ f k ≤ M) :
    Calls Tryz.prog 59 #[.slice A n c, .int .i64 1, .int .i64 (M : Int)] w fun e w' => e = .returned (.bool true) ∧ w' = w := by
  have HF := Lib.hid hf
  clear hf
  go_enter Tryz.func59, Tryz.ntmps59
  go_wp2
  go_loopw [11] (fun i wr => ∃ k : Nat, k ≤ n ∧ i = .int .i64 (k : Int) ∧ Hid (wr = w)) (fun i _ => n - (intOf i).toNat)
  case atStart => exact ⟨0, Nat.zero_le _, rfl, Lib.hid rfl⟩
  case round =>
    obtain ⟨k, hk, rfl, HW⟩ := hrel
    by_cases hkn : k < n
    · obtain ⟨b1, o1, rfl, hlt1, hc1⟩ := hA.dg hkn
      rw [← HW.out] at hlt1 hc1
      have h1 := HF.out k hkn
      have e1 : ((f k : Int) < 1) = False := eq_false (by omega)
      have e2 : ((M : Int) < (f k : Int)) = False := eq_false (by omega)
      have e3 : (M < f k) = False := eq_false (by omega)
      clear h1
      go_wp2
      go_roundw
      case rel => exact ⟨k + 1, by omega, by first | rfl | simp, HW⟩
      case measure => simp [intOf]; omega
    · obtain rfl : k = n := by omega
      go_wp2
      go_ret
      exact ⟨rfl, HW.out⟩
set_option maxHeartbeats 2000000 in
theorem repeated_no (w : World) {A : Option Addr} {n c : Nat} {f : Nat → Nat} (hn : n ≤ 1000) (hc : n ≤ c) (hA : Cells w A n (Dg f)) (hf : ∀ k, k < n → hs f (f k) k = false) :
    Calls Tryz.prog 60 #[.slice A n c] w fun e w' => e = .returned (.bool false) ∧ w' = w := by
  have HF := Lib.hid hf
  have HA := Lib.hid hA
  clear hf
  go_enter Tryz.func60, Tryz.ntmps60
  go_wp2
  go_loopw [7] (fun i wr => ∃ k : Nat, k ≤ n ∧ i = .int .i64 (k : Int) ∧ Hid (wr = w)) (fun i _ => n - (intOf i).toNat)
  case atStart => exact ⟨0, Nat.zero_le _, rfl, Lib.hid rfl⟩
  case round =>
    obtain ⟨k, hk, rfl, HW⟩ := hrel
    by_cases hkn : k < n
    · obtain ⟨b1, o1, rfl, hlt1, hc1⟩ := hA.dg hkn
      have HK := Lib.hid (contains_any (c := c) (v := f k) w (by omega) (HA.out.sub hk))
      rw [HF.out k hkn] at HK
      rw [← HW.out] at hlt1 hc1 HK
      clear hA
      have k1 : k ≤ c := by omega
      go_wp2_with fail
      with_reducible refine HK.out.mono ?_
      rintro e w1 ⟨rfl, hw1⟩
      have HW2 := Lib.hid (hw1.trans HW.out)
      clear hw1 HW
      go_wp2
      go_roundw
      case rel => exact ⟨k + 1, by omega, by first | rfl | simp, HW2⟩
      case measure => simp [intOf]; omega
    · obtain rfl : k = n := by omega
      go_wp2
      go_ret
      exact ⟨rfl, HW.out⟩
set_option maxHeartbeats 2000000 in
theorem common_any (w : World) {A B : Option Addr} {n c m d : Nat} {f g : Nat → Nat} (hn : n ≤ 1000) (hm : m ≤ 1000) (hA : Cells w A n (Dg f)) (hB : Cells w B m (Dg g)) :
    Calls Tryz.prog 43 #[.slice A n c, .slice B m d] w fun e w' => e = .returned (.int .i64 ((cm f g m n : Nat) : Int)) ∧ w' = w := by
  have HK := Lib.hid (fun v => contains_any (c := d) (v := v) w hm hB)
  clear hB
  have HR0 : Hid (0 = cm f g m 0) := Lib.hid rfl
  go_enter Tryz.func43, Tryz.ntmps43
  go_wp2
  go_loopw [10, 5] (fun i a wr => ∃ k x : Nat, k ≤ n ∧ i = .int .i64 (k : Int) ∧ a = .int .i64 (x : Int) ∧ Hid (x = cm f g m k) ∧ Hid (wr = w)) (fun i _ _ => n - (intOf i).toNat)
  case atStart => exact ⟨0, 0, Nat.zero_le _, rfl, rfl, HR0, Lib.hid rfl⟩
  case round =>
    obtain ⟨k, x, hk, rfl, rfl, HX, HW⟩ := hrel
    have hx : x ≤ 1000 := by rw [HX.out]; exact Nat.le_trans (cm_le _) (by omega)
    by_cases hkn : k < n
    · obtain ⟨b1, o1, rfl, hlt1, hc1⟩ := hA.dg hkn
      have HK1 := Lib.hid (HK.out (f k))
      rw [← HW.out] at hlt1 hc1 HK1
      clear hA
      have HS : Hid (cm f g m (k + 1) = x + if hs g (f k) m = true then 1 else 0) := Lib.hid (by rw [cm, ← HX.out])
      obtain ⟨q, hq⟩ : ∃ q, q = hs g (f k) m := ⟨_, rfl⟩
      rw [← hq] at HK1 HS
      clear hq
      cases q
      all_goals
        go_wp2_with fail
        with_reducible refine HK1.out.mono ?_
        rintro e w1 ⟨rfl, hw1⟩
        have HW2 := Lib.hid (hw1.trans HW.out)
        clear hw1 HW HK1
        go_wp2
        go_roundw
        case measure => simp [intOf]; omega
      · exact ⟨k + 1, x, by omega, by first | rfl | simp, rfl, Lib.hid (by rw [HS.out]; simp), HW2⟩
      · exact ⟨k + 1, x + 1, by omega, by first | rfl | simp, by first | rfl | simp, Lib.hid (by rw [HS.out]; simp), HW2⟩
    · obtain rfl : k = n := by omega
      go_wp2
      go_ret
      exact ⟨by rw [← HX.out]; rfl, HW.out⟩
set_option maxHeartbeats 2000000 in
theorem list_ok (w : World) {A : Option Addr} {n c : Nat} {f : Nat → Nat} {M : Nat} (hn : n ≤ 1000) (hA : Cells w A n (Dg f)) (hf : ∀ k, k < n → 1 ≤ f k ∧ f k ≤ M ∧ (0 < k → f (k - 1) < f k)) :
    Calls Tryz.prog 79 #[.slice A n c, .int .i64 1, .int .i64 (M : Int), .bool true] w fun e w' => e = .returned (.int .i64 0) ∧ w' = w := by
  have HF := Lib.hid hf
  clear hf
  go_enter Tryz.func79, Tryz.ntmps79
  go_wp2
  go_loopw [13] (fun i wr => ∃ k : Nat, k ≤ n ∧ i = .int .i64 (k : Int) ∧ Hid (wr = w)) (fun i _ => n - (intOf i).toNat)
  case atStart => exact ⟨0, Nat.zero_le _, rfl, Lib.hid rfl⟩
  case round =>
    obtain ⟨k, hk, rfl, HW⟩ := hrel
    by_cases hkn : k < n
    · obtain ⟨b1, o1, rfl, hlt1, hc1⟩ := hA.dg hkn
      rw [← HW.out] at hlt1 hc1
      have h1 := HF.out k hkn
      have e1 : ((f k : Int) < 1) = False := eq_false (by omega)
      have e2 : ((M : Int) < (f k : Int)) = False := eq_false (by omega)
      have e3 : (M < f k) = False := eq_false (by omega)
      rcases Nat.eq_zero_or_pos k with hk0 | hk0
      · subst hk0
        have hc2 : wr.cell? ⟨b1, o1, none⟩ = some (.int .i64 (f 0 : Int)) := hc1
        clear h1
        go_wp2
        go_roundw
        case rel => exact ⟨1, by omega, by first | rfl | simp, HW⟩
        case measure => simp [intOf]; omega
      · obtain ⟨j, rfl⟩ : ∃ j, k = j + 1 := ⟨k - 1, by omega⟩
        obtain ⟨b2, o2, hD2, hlt2, hc2⟩ := hA.dg (show j < n by omega)
        injection hD2 with hD2
        injection hD2 with hb hof
        subst hb hof
        rw [← HW.out] at hlt2 hc2
        have e4 : (((j + 1 : Nat) : Int) - 1) = (j : Int) := by omega
        have h2 := h1.2.2 (by omega)
        rw [Nat.add_sub_cancel] at h2
        have e5 : ((f (j + 1) : Int) ≤ (f j : Int)) = False := eq_false (by omega)
        have e6 : (f (j + 1) ≤ f j) = False := eq_false (by omega)
        have e7 : IntKind.i64.wrap (((j + 1 : Nat) : Int) - 1) = (j : Int) := by rw [IntWalk.i64_in _ (by omega)]; omega
        have e8 : ((0 : Int) < ((j + 1 : Nat) : Int)) := by omega
        clear h1 h2
        go_wp2
        go_roundw
        case rel => exact ⟨j + 1 + 1, by omega, by first | rfl | simp, HW⟩
        case measure => simp [intOf]; omega
    · obtain rfl : k = n := by omega
      go_wp2
      go_ret
      exact ⟨rfl, HW.out⟩
end Tp
end Go.Proofs.YtdcmpnjhomhhiaaGreat
