/- The walks of nat.subtract and nat.restore. -/
import Derived.Test.YteclghokkdkolaaNatShift
set_option linter.unusedVariables false
namespace Go.Proofs.Yteclghokkdkolaa
open Go.RowKit

/-- Cells from o on: n limbs f; elsewhere F. -/
def wcell (o n : Nat) (f : Nat → Nat) (F : Nat → Value) (t : Nat) : Value := if o ≤ t ∧ t < o + n then .int .u32 (f (t - o) : Int) else F t
theorem wcell_zero (o : Nat) (f : Nat → Nat) (F : Nat → Value) (t : Nat) : wcell o 0 f F t = F t := by unfold wcell; rw [if_neg (by omega)]
theorem wcell_next (o k : Nat) (f : Nat → Nat) (F : Nat → Value) (t : Nat) : wcell o (k + 1) f F t = if t = o + k then .int .u32 (f k : Int) else wcell o k f F t := by
  unfold wcell
  by_cases e : t = o + k
  · subst e; rw [if_pos (by omega), if_pos rfl, show o + k - o = k by omega]
  · rw [if_neg e]
    by_cases h : o ≤ t ∧ t < o + k
    · rw [if_pos (by omega), if_pos h]
    · rw [if_neg (by omega), if_neg h]
theorem wcell_out {o k : Nat} (f : Nat → Nat) (F : Nat → Value) : wcell o k f F (o + k) = F (o + k) := by unfold wcell; rw [if_neg (by omega)]
theorem and_low (T : Nat) (hT : T ≤ 18446744073709551615) : bits .and .u64 (T : Int) 4294967295 = ((T % 4294967296 : Nat) : Int) := by
  have h := Go.bits_and_u64_nat T 4294967295 (by omega) (by omega)
  rw [Nat.and_two_pow_sub_one_eq_mod T 32] at h
  exact h
theorem wrap_digits {X β k m : Nat} (hk : k < m) : d32 (X + 4294967296 ^ m * β) k = d32 X k := Nt.chain_lo (by omega) X β hk
theorem wrap_borrow {X z P β m : Nat} (hz : Fit32 z m) (hP : Fit32 P m) (hX : Fit32 X m) (h : z + P = X + 4294967296 ^ m * β) : c32 z P m = β := by
  have h1 : c32 z P m = (z + P) / 4294967296 ^ m := Nt.car_end hz hP
  rw [h1, h, Nat.add_mul_div_left _ _ (Nat.pow_pos (by omega)), Nat.div_eq_of_lt hX, Nat.zero_add]

theorem f32_le {f : Nat} (hf : f ≤ 4294967296) (y k : Nat) : f32 f y k ≤ 4294967295 := by
  rcases Nat.eq_zero_or_pos f with rfl | h
  · have : f32 0 y k = 0 := by unfold f32 Nt.fcar; rw [Nat.zero_mul, Nat.zero_div]
    omega
  · have := f32_lt h y k; omega
set_option maxHeartbeats 2000000 in
set_option maxRecDepth 100000 in
theorem subtract_any {g o M m c cv X v G z β : Nat} {E : Option Addr} {F : Nat → Value} {w : World} (hm : m ≤ 1000) (ho : o ≤ 1000) (hM : o + m + 1 ≤ M) (hG : G ≤ 4294967296) (hv : Fit32 v m) (hX : Fit32 X (m + 1)) (hz : Fit32 z (m + 1)) (hP : Fit32 (G * v) (m + 1))
    (hzx : z + G * v = X + 4294967296 ^ (m + 1) * β) (hA : Arr w g 43 M F) (hF : ∀ j, j < m + 1 → F (o + j) = .int .u32 (d32 X j : Int))
    (hE : ∀ wr, w.grownBy wr (some g) → Cells wr E m (Lm (d32 v))) :
    Calls Try.prog 90 #[.slice (some ⟨g, o, none⟩) (m + 1) c, .slice E m cv, .int .u64 (G : Int)] w fun e w' => e = .returned (.bool ((β : Int) != 0)) ∧ Arr w' g 43 M (wcell o (m + 1) (d32 z) F) ∧ w.grownBy w' (some g) := by
  have HA := Lib.hid (hA.congr (F' := wcell o 0 (d32 z) F) fun j _ => (wcell_zero o _ F j).symm)
  have HE := Lib.hid hE
  have HF := Lib.hid hF
  have HZX := Lib.hid hzx
  have HBo := Lib.hid (wrap_borrow hz hP hX hzx)
  have HVZ := Lib.hid (fun k (hk : m ≤ k) => show d32 v k = 0 from Nt.dig_high (Nat.lt_of_lt_of_le hv (Nat.pow_le_pow_right (by omega) hk)))
  clear hA hE hF hzx hX hz hP
  go_enter Try.func90, Try.ntmps90
  go_wp2
  go_loopw [7, 8, 14] (fun cr bo i wr => ∃ k : Nat, k ≤ m + 1 ∧ i = .int .i64 k ∧ cr = .int .u64 (f32 G v k : Int) ∧ bo = .int .u64 (c32 z (G * v) k : Int) ∧ Hid (Arr wr g 43 M (wcell o k (d32 z) F)) ∧ Hid (w.grownBy wr (some g))) (fun _ _ i _ => m + 1 - (intOf i).toNat)
  case atStart => exact ⟨0, Nat.zero_le _, rfl, by rw [f32_zero]; rfl, by rw [c32_zero]; rfl, HA, only_refl _ _⟩
  case round =>
    obtain ⟨k, hk, rfl, rfl, rfl, HA1, HG1⟩ := hrel
    by_cases hkm : k < m + 1
    · obtain ⟨hc, hf⟩ := HA1.out.at_ (show o + k < M by omega)
      have hc2 : wr.cell? ⟨g, o + k, none⟩ = some (.int .u32 (d32 X k : Int)) := by rw [hc, wcell_out]; exact congrArg some (HF.out k hkm)
      have hst := s32_step HZX.out k
      rw [wrap_digits hkm] at hst
      have HST := Lib.hid hst
      have hfs := f32_step G v k
      have hfl := f32_le hG v k
      have hfl2 := f32_le hG v (k + 1)
      have hcl := c32_le z (G * v) k
      have hdx := d32_lt X k
      have hdv := d32_lt v k
      have hdz := d32_lt z k
      have hdp := d32_lt (G * v) k
      have hpr : G * d32 v k ≤ 18446744069414584320 := Nat.le_trans (Nat.mul_le_mul hG (show d32 v k ≤ 4294967295 by omega)) (by omega)
      obtain ⟨T, hT⟩ : ∃ T, T = f32 G v k + G * d32 v k := ⟨_, rfl⟩
      rw [← hT] at hfs
      have hTb : T ≤ 18446744073709551615 := by omega
      have hand := and_low T hTb
      rw [show T % 4294967296 = d32 (G * v) k by omega] at hand
      have hdiv : ((T : Nat) : Int) / 4294967296 = (f32 G v (k + 1) : Int) := by omega
      have hpi0 : (0 : Int) ≤ (G : Int) * (d32 v k : Int) := Int.mul_nonneg (by omega) (by omega)
      have hpi1 : (G : Int) * (d32 v k : Int) ≤ 18446744069414584320 := by rw [← Int.natCast_mul]; omega
      have hsum : (f32 G v k : Int) + (G : Int) * (d32 v k : Int) = (T : Int) := by rw [hT, Int.natCast_add, Int.natCast_mul]
      have hk0 : (0 : Int) ≤ (k : Int) := by omega
      have HU := Lib.hid fun t => wcell_next o k (d32 z) F t
      clear hc hst hT hfs
      by_cases hkv : k < m
      · obtain ⟨b2, o2, rfl, hlt2, hc3⟩ := (HE.out wr HG1.out).lm hkv
        by_cases hcm : d32 X k < c32 z (G * v) k + d32 (G * v) k
        · have hcm2 : ((d32 X k : Nat) : Int) < (d32 (G * v) k : Int) + (c32 z (G * v) k : Int) := by omega
          have HE1 := Lib.hid (HST.out.1 hcm)
          clear hcm
          go_wp2
          go_roundw
          case rel =>
            have e1 : ((d32 X k : Int) + 4294967296 - ((d32 (G * v) k : Int) + (c32 z (G * v) k : Int))) = (d32 z k : Int) := by have := HE1.out.2; omega
            rw [e1]
            have hp := HA1.out.put (k := o + k) (F' := wcell o (k + 1) (d32 z) F) (u := .int .u32 (d32 z k : Int)) fun t _ => HU.out t
            exact ⟨k + 1, by omega, by go_num, rfl, by rw [HE1.out.1]; rfl, hp.1, grown_on HG1.out hp.2⟩
          case measure => simp [intOf]; omega
        · have hcm2 : (d32 (G * v) k : Int) + (c32 z (G * v) k : Int) ≤ ((d32 X k : Nat) : Int) := by omega
          have HE1 := Lib.hid (HST.out.2 hcm)
          clear hcm
          go_wp2
          go_roundw
          case rel =>
            have e1 : ((d32 X k : Int) - ((d32 (G * v) k : Int) + (c32 z (G * v) k : Int))) = (d32 z k : Int) := by have := HE1.out.2; omega
            rw [e1]
            have hp := HA1.out.put (k := o + k) (F' := wcell o (k + 1) (d32 z) F) (u := .int .u32 (d32 z k : Int)) fun t _ => HU.out t
            exact ⟨k + 1, by omega, by go_num, rfl, by rw [HE1.out.1]; rfl, hp.1, grown_on HG1.out hp.2⟩
          case measure => simp [intOf]; omega
      · have hvz := HVZ.out k (by omega)
        have hT2 : T = f32 G v k := by have h := hsum; rw [hvz] at h; omega
        have hand2 : bits .and .u64 (f32 G v k : Int) 4294967295 = (d32 (G * v) k : Int) := by rw [← hT2]; exact hand
        have hdiv2 : (f32 G v k : Int) / 4294967296 = (f32 G v (k + 1) : Int) := by rw [← hT2]; exact hdiv
        clear hand hdiv hsum hT2 hvz
        by_cases hcm : d32 X k < c32 z (G * v) k + d32 (G * v) k
        · have hcm2 : ((d32 X k : Nat) : Int) < (d32 (G * v) k : Int) + (c32 z (G * v) k : Int) := by omega
          have HE1 := Lib.hid (HST.out.1 hcm)
          clear hcm
          go_wp2
          go_roundw
          case rel =>
            have e1 : ((d32 X k : Int) + 4294967296 - ((d32 (G * v) k : Int) + (c32 z (G * v) k : Int))) = (d32 z k : Int) := by have := HE1.out.2; omega
            rw [e1]
            have hp := HA1.out.put (k := o + k) (F' := wcell o (k + 1) (d32 z) F) (u := .int .u32 (d32 z k : Int)) fun t _ => HU.out t
            exact ⟨k + 1, by omega, by go_num, rfl, by rw [HE1.out.1]; rfl, hp.1, grown_on HG1.out hp.2⟩
          case measure => simp [intOf]; omega
        · have hcm2 : (d32 (G * v) k : Int) + (c32 z (G * v) k : Int) ≤ ((d32 X k : Nat) : Int) := by omega
          have HE1 := Lib.hid (HST.out.2 hcm)
          clear hcm
          go_wp2
          go_roundw
          case rel =>
            have e1 : ((d32 X k : Int) - ((d32 (G * v) k : Int) + (c32 z (G * v) k : Int))) = (d32 z k : Int) := by have := HE1.out.2; omega
            rw [e1]
            have hp := HA1.out.put (k := o + k) (F' := wcell o (k + 1) (d32 z) F) (u := .int .u32 (d32 z k : Int)) fun t _ => HU.out t
            exact ⟨k + 1, by omega, by go_num, rfl, by rw [HE1.out.1]; rfl, hp.1, grown_on HG1.out hp.2⟩
          case measure => simp [intOf]; omega
    · obtain rfl : k = m + 1 := by omega
      rw [HBo.out]
      have hβ : (β : Int) ≤ 1 := by have := c32_le z (G * v) (m + 1); have := HBo.out; omega
      go_wp2
      go_ret
      exact ⟨rfl, HA1.out, HG1.out⟩

set_option maxHeartbeats 2000000 in
set_option maxRecDepth 100000 in
theorem restore_any {g o M m c cv z v : Nat} {E : Option Addr} {F : Nat → Value} {w : World} (hm : m ≤ 1000) (ho : o ≤ 1000) (hM : o + m + 1 ≤ M) (hv : Fit32 v m) (hA : Arr w g 43 M F) (hF : ∀ j, j < m + 1 → F (o + j) = .int .u32 (d32 z j : Int))
    (hE : ∀ wr, w.grownBy wr (some g) → Cells wr E m (Lm (d32 v))) :
    Calls Try.prog 91 #[.slice (some ⟨g, o, none⟩) (m + 1) c, .slice E m cv] w fun e w' => e = .returned (.tuple #[]) ∧ Arr w' g 43 M (wcell o (m + 1) (d32 (z + v)) F) ∧ w.grownBy w' (some g) := by
  have HA := Lib.hid (hA.congr (F' := wcell o 0 (d32 (z + v)) F) fun j _ => (wcell_zero o _ F j).symm)
  have HE := Lib.hid hE
  have HF := Lib.hid hF
  have HVZ := Lib.hid (fun k (hk : m ≤ k) => show d32 v k = 0 from Nt.dig_high (Nat.lt_of_lt_of_le hv (Nat.pow_le_pow_right (by omega) hk)))
  clear hA hE hF hv
  go_enter Try.func91, Try.ntmps91
  go_wp2
  go_loopw [4, 8] (fun cr i wr => ∃ k : Nat, k ≤ m + 1 ∧ i = .int .i64 k ∧ cr = .int .u64 (c32 z v k : Int) ∧ Hid (Arr wr g 43 M (wcell o k (d32 (z + v)) F)) ∧ Hid (w.grownBy wr (some g))) (fun _ i _ => m + 1 - (intOf i).toNat)
  case atStart => exact ⟨0, Nat.zero_le _, rfl, by rw [c32_zero]; rfl, HA, only_refl _ _⟩
  case round =>
    obtain ⟨k, hk, rfl, rfl, HA1, HG1⟩ := hrel
    by_cases hkm : k < m + 1
    · obtain ⟨hc, hf⟩ := HA1.out.at_ (show o + k < M by omega)
      have hc2 : wr.cell? ⟨g, o + k, none⟩ = some (.int .u32 (d32 z k : Int)) := by rw [hc, wcell_out]; exact congrArg some (HF.out k hkm)
      have hst := c32_step z v k
      have HST := Lib.hid hst
      have hcl := c32_le z v k
      have hcl2 := c32_le z v (k + 1)
      have hdx := d32_lt z k
      have hdv := d32_lt v k
      have hdz := d32_lt (z + v) k
      have hk0 : (0 : Int) ≤ (k : Int) := by omega
      have HU := Lib.hid fun t => wcell_next o k (d32 (z + v)) F t
      clear hc hst
      by_cases hkv : k < m
      · obtain ⟨b2, o2, rfl, hlt2, hc3⟩ := (HE.out wr HG1.out).lm hkv
        go_wp2
        go_roundw
        case rel =>
          have e1 : ((c32 z v k : Int) + (d32 z k : Int) + (d32 v k : Int)) % 4294967296 = (d32 (z + v) k : Int) := by have := HST.out; omega
          have e2 : ((c32 z v k : Int) + (d32 z k : Int) + (d32 v k : Int)) / 4294967296 = (c32 z v (k + 1) : Int) := by have := HST.out; omega
          rw [e1, e2]
          have hp := HA1.out.put (k := o + k) (F' := wcell o (k + 1) (d32 (z + v)) F) (u := .int .u32 (d32 (z + v) k : Int)) fun t _ => HU.out t
          exact ⟨k + 1, by omega, by go_num, rfl, hp.1, grown_on HG1.out hp.2⟩
        case measure => simp [intOf]; omega
      · have HZ := Lib.hid (HVZ.out k (by omega))
        go_wp2
        go_roundw
        case rel =>
          have e1 : ((c32 z v k : Int) + (d32 z k : Int)) % 4294967296 = (d32 (z + v) k : Int) := by have := HST.out; have := HZ.out; omega
          have e2 : ((c32 z v k : Int) + (d32 z k : Int)) / 4294967296 = (c32 z v (k + 1) : Int) := by have := HST.out; have := HZ.out; omega
          rw [e1, e2]
          have hp := HA1.out.put (k := o + k) (F' := wcell o (k + 1) (d32 (z + v)) F) (u := .int .u32 (d32 (z + v) k : Int)) fun t _ => HU.out t
          exact ⟨k + 1, by omega, by go_num, rfl, hp.1, grown_on HG1.out hp.2⟩
        case measure => simp [intOf]; omega
    · obtain rfl : k = m + 1 := by omega
      go_wp2
      go_end0
      exact ⟨rfl, HA1.out, HG1.out⟩
end Go.Proofs.Yteclghokkdkolaa
