/- Several texts in one. -/
import Derived.Test.YtdcmpnjhomhhiaaGreatG2
import Derived.Test.YtdcmpnjhomhhiaaGreatBits
import Derived.Lib.ItoaNum
/- The walks of math/bits.LeadingZeros32 and of nat.shifted. -/
set_option linter.unusedVariables false
namespace Go.Proofs.YtdcmpnjhomhhiaaGreat
open Go.RowKit

/-- The carry into limb k of f * y. -/
def f32 (f y k : Nat) : Nat := Nt.fcar 4294967296 f y k
theorem f32_zero (f y : Nat) : f32 f y 0 = 0 := Nt.fcar_zero _ f y
theorem f32_step (f y k : Nat) : f32 f y k + f * d32 y k = 4294967296 * f32 f y (k + 1) + d32 (f * y) k := Nt.fcar_step (by omega) f y k
theorem f32_lt {f : Nat} (hf : 0 < f) (y k : Nat) : f32 f y k < f := by
  unfold f32 Nt.fcar
  have h1 := Nat.mod_lt y (Nat.pow_pos (n := k) (show 0 < 4294967296 by omega))
  refine (Nat.div_lt_iff_lt_mul (Nat.pow_pos (by omega))).2 ?_
  exact Nat.mul_lt_mul_of_pos_left h1 hf
theorem f32_end {f y n : Nat} (hy : Fit32 y n) (hf : f ≤ 4294967296) : f32 f y n = d32 (f * y) n ∧ Fit32 (f * y) (n + 1) := by
  have h0 : 0 < 4294967296 ^ n := Nat.pow_pos (by omega)
  have h1 : f * y < 4294967296 ^ (n + 1) := by
    rw [Nat.pow_succ, Nat.mul_comm]
    exact Nat.lt_of_le_of_lt (Nat.mul_le_mul_left _ hf) (Nat.mul_lt_mul_of_pos_right hy (by omega))
  refine ⟨?_, h1⟩
  unfold f32 Nt.fcar d32 Nt.dig
  have h2 : y % 4294967296 ^ n = y := Nat.mod_eq_of_lt hy
  rw [h2, Nat.mod_eq_of_lt]
  rw [Nat.pow_succ] at h1
  exact (Nat.div_lt_iff_lt_mul h0).2 (by rw [Nat.mul_comm 4294967296]; exact h1)

/-- The carry or a limb that is shifted. -/
theorem or_shift {c d s : Nat} (hs : s ≤ 31) (hc : c < 2 ^ s) (hd : d < 4294967296) : bits .or .u64 (c : Int) (IntKind.u64.wrap ((d : Int) * 2 ^ s)) = ((c + 2 ^ s * d : Nat) : Int) := by
  have hp1 : 2 ^ s ≤ 2147483648 := Nat.pow_le_pow_right (n := 2) (by omega) hs
  have h1 : d * 2 ^ s ≤ 4294967295 * 2147483648 := Nat.mul_le_mul (by omega) hp1
  have h2 : ((d : Int) * 2 ^ s) = ((d * 2 ^ s : Nat) : Int) := by rw [Int.natCast_mul, Int.natCast_pow]; rfl
  rw [h2, IntWalk.u64_in _ (by omega), Go.bits_or_u64_nat c (d * 2 ^ s) (by omega) (by omega), Nat.or_comm, Nat.mul_comm d, ← Nat.two_pow_add_eq_or_of_lt hc, Nat.add_comm]

set_option maxHeartbeats 1000000 in
set_option maxRecDepth 100000 in
theorem shifted_any {D : Option Addr} {n c x s : Nat} {w : World} (hn : n ≤ 1000) (hs : s ≤ 31) (hxn : Fit32 x n) (hx : Cells w D n (Lm (d32 x))) :
    Calls Tryz.prog 94 #[.slice D n c, .int .u64 (s : Int)] w fun e w' => ∃ g, e = .returned (.slice (some ⟨g, 0, none⟩) (n + 1) (n + 1)) ∧ w'.ownsRow w.heap.size 65 1 (.slice (some ⟨g, 0, none⟩) (n + 1) (n + 1)) (n + 1) (row ((n + 1) * 1) (Lm (d32 (2 ^ s * x)))) ∧ Below w.heap.size w w' := by
  obtain ⟨i0, hi, hz0, hz1, hz2⟩ := info_parts Tryz.infoU
  have HX := Lib.hid hxn
  clear hxn
  have HB := Lib.hid (Below.refl w.heap.size w)
  obtain ⟨p, hp⟩ : ∃ p : Nat, p = 2 ^ s := ⟨_, rfl⟩
  have hp1 : p ≤ 2147483648 := by rw [hp]; exact Nat.pow_le_pow_right (n := 2) (by omega) hs
  have hp0 : 0 < p := by rw [hp]; exact Nat.pow_pos (by omega)
  rw [← hp]
  have HP := Lib.hid hp
  clear hp
  go_enter Tryz.func94, Tryz.ntmps94
  go_wp2_with (at_make; refine wpList_make_full _ rfl _ _ 32 rfl w.heap.size 65 i0 (.int .u32 0) 1 Tryz.underlying32 hi hz0 hz1 _ _ _ _ (n + 1) rfl rfl ?c1 ?c2 ?c3 ?c4 ?c5 ?_)
  case c1 => omega
  case c2 => omega
  case c3 => rw [hz2]; omega
  case c4 => unfold maxLen; omega
  case c5 => exact Nat.le_refl _
  intro w4 hown1 hgr1
  have HB4 : Hid (Below w.heap.size w w4) := ⟨hgr1.os, hgr1.tape, hgr1.output, hgr1.size, fun k hk => hgr1.block k hk (by simp)⟩
  have hgl := (hown1.lt _ rfl).2
  have HO := Lib.hid (own_congr (F' := Lm (upto (d32 (p * x)) 0)) (made_own (z := .int .u32 0) hown1) fun j hj => by unfold Lm upto; rw [if_neg (by omega)]; rfl)
  clear hown1 hgr1
  obtain ⟨g, hg⟩ : ∃ g, g = w.heap.size := ⟨_, rfl⟩
  rw [← hg] at HO hgl ⊢
  have hgs : w.heap.size ≤ g := by omega
  have HG := Lib.hid hg
  clear hg
  go_wp2
  go_loopw [6, 15] (fun cr i wr => ∃ k : Nat, k ≤ n ∧ i = .int .i64 k ∧ cr = .int .u64 (f32 p x k : Int) ∧ Hid (wr.ownsRow g 65 1 (.slice (some ⟨g, 0, none⟩) (n + 1) (n + 1)) (n + 1) (row ((n + 1) * 1) (Lm (upto (d32 (p * x)) k)))) ∧ Hid (Below w.heap.size w wr) ∧ g < wr.heap.size) (fun _ i _ => n - (intOf i).toNat)
  case atStart => exact ⟨0, Nat.zero_le _, rfl, by rw [f32_zero]; rfl, HO, HB4, hgl⟩
  case round =>
    obtain ⟨k, hk, rfl, rfl, HO1, HB5, hgl5⟩ := hrel
    have hst := f32_step p x k
    have hfl := f32_lt hp0 x k
    have hfl2 := f32_lt hp0 x (k + 1)
    have hd := d32_lt x k
    have HST := Lib.hid hst
    have hd3 := d32_lt (p * x) k
    clear hst
    by_cases hkn : k < n
    · obtain ⟨b1, o1, rfl, hlt1, hc1⟩ := (hx.below HB5.out).lm hkn
      obtain ⟨hog, hof⟩ := own_at HO1.out (show k < n + 1 by omega)
      have hog2 : wr.cell? ⟨g, k, none⟩ = some (.int .u32 ((0 : Nat) : Int)) := by rw [hog]; unfold Lm; rw [upto_at]
      have HU := Lib.hid fun j => upto_next (d32 (p * x)) k j
      clear hog
      have hs0 : (0 : Int) ≤ (s : Int) := by omega
      have hs1 : (s : Int) ≤ 31 := by omega
      have horl := Lib.hid (or_shift (c := f32 p x k) (d := d32 x k) hs (by rw [← HP.out]; exact hfl) hd)
      go_wp2
      go_roundw
      case rel =>
        rw [horl.out, ← HP.out]
        have e1 : (((f32 p x k + p * d32 x k : Nat) : Int)) % 4294967296 = (d32 (p * x) k : Int) := by have := HST.out; omega
        have e2 : (((f32 p x k + p * d32 x k : Nat) : Int)) / 4294967296 = (f32 p x (k + 1) : Int) := by have := HST.out; omega
        rw [e1, e2]
        have hp := own_put (k := k) (F' := Lm (upto (d32 (p * x)) (k + 1))) HO1.out fun j _ => HU.out j
        exact ⟨k + 1, by omega, by go_num, rfl, hp.1, HB5.out.trans ((only_below hp.2 (by omega)).mono hgs), by simpa using hgl5⟩
      case measure => simp [intOf]; omega
    · obtain rfl : k = n := by omega
      obtain ⟨hog, hof⟩ := own_at HO1.out (show k < k + 1 by omega)
      have hog2 : wr.cell? ⟨g, k, none⟩ = some (.int .u32 ((0 : Nat) : Int)) := by rw [hog]; unfold Lm; rw [upto_at]
      have htop := Lib.hid (f32_end (f := p) HX.out (by omega))
      have hp := own_put (k := k) (u := .int .u32 (f32 p x k : Int)) (F' := Lm (upto (d32 (p * x)) (k + 1))) HO1.out fun j _ => by rw [upto_next, htop.out.1]
      have HP2 := Lib.hid (own_congr (F' := Lm (d32 (p * x))) hp.1 fun j hj => by unfold Lm; rw [upto_lt hj])
      have HB6 := Lib.hid (HB5.out.trans ((only_below hp.2 (by omega)).mono hgs))
      clear hog hp
      go_wp2
      go_ret
      exact ⟨g, rfl, by rw [← HG.out]; exact HP2.out, HB6.out⟩
theorem f32_fits {s y n : Nat} (hy : Fit32 y n) (hs : s ≤ 31) : Fit32 (2 ^ s * y) (n + 1) :=
  (f32_end hy (by have : 2 ^ s ≤ 2147483648 := Nat.pow_le_pow_right (n := 2) (by omega) hs; omega)).2

theorem bitLen_spec (x : Nat) (hx : x < 4294967296) (h0 : 0 < x) : x < 2 ^ Lib.bitLen x ∧ 2 ^ Lib.bitLen x ≤ 2 * x := by
  obtain ⟨h1, h2, h3⟩ := Lib.bitLenAux_bounds 64 x (by omega) (by omega)
  refine ⟨h3, ?_⟩
  have h4 : 2 ^ Lib.bitLenAux 64 x = 2 ^ (Lib.bitLenAux 64 x - 1) * 2 := by rw [← Nat.pow_succ, show (Lib.bitLenAux 64 x - 1).succ = Lib.bitLenAux 64 x by omega]
  show 2 ^ Lib.bitLenAux 64 x ≤ 2 * x
  omega
theorem lz_any (x : Nat) (h0 : 0 < x) (hx : x < 4294967296) (w : World) :
    Calls Tryz.prog 93 #[.int .u32 (x : Int)] w fun e w' => ∃ s : Nat, e = .returned (.int .i64 (s : Int)) ∧ s ≤ 31 ∧ 2 ^ s * x < 4294967296 ∧ 2147483648 ≤ 2 ^ s * x ∧ w = w' := by
  refine (bits_LeadingZeros32 (x : Int) w (by omega) (by omega)).mono ?_
  rintro e w1 ⟨rfl, rfl⟩
  obtain ⟨h1, h2⟩ := bitLen_spec x hx h0
  rw [Int.toNat_natCast]
  have hl : Lib.bitLen x ≤ 32 := by
    rcases Nat.lt_or_ge 32 (Lib.bitLen x) with h | h
    · have : 2 ^ 33 ≤ 2 ^ Lib.bitLen x := Nat.pow_le_pow_right (by omega) h
      omega
    · exact h
  have hl0 : 1 ≤ Lib.bitLen x := by
    rcases Nat.eq_zero_or_pos (Lib.bitLen x) with h | h
    · rw [h] at h1; simp at h1; omega
    · exact h
  refine ⟨32 - Lib.bitLen x, by rw [show (32 - (Lib.bitLen x : Int)) = ((32 - Lib.bitLen x : Nat) : Int) by omega], by omega, ?_, ?_, rfl⟩
  · have : 2 ^ (32 - Lib.bitLen x) * 2 ^ Lib.bitLen x = 4294967296 := by rw [← Nat.pow_add, show 32 - Lib.bitLen x + Lib.bitLen x = 32 by omega]
    rw [← this]
    exact Nat.mul_lt_mul_of_pos_left h1 (Nat.pow_pos (by omega))
  · have h3 : 2 ^ (32 - Lib.bitLen x) * 2 ^ Lib.bitLen x = 4294967296 := by rw [← Nat.pow_add, show 32 - Lib.bitLen x + Lib.bitLen x = 32 by omega]
    have h4 := Nat.mul_le_mul_left (2 ^ (32 - Lib.bitLen x)) h2
    rw [h3, Nat.mul_left_comm] at h4
    omega
end Go.Proofs.YtdcmpnjhomhhiaaGreat

/- The walks of nat.subtract and nat.restore. -/
set_option linter.unusedVariables false
namespace Go.Proofs.YtdcmpnjhomhhiaaGreat
open Go.RowKit

/-- Cells from o on: n limbs f; elsewhere F. -/
def wcell (o n : Nat) (f : Nat → Nat) (F : Nat → Value) (t : Nat) : Value := if o ≤ t ∧ t < o + n then .int .u32 (f (t - o) : Int) else F t
theorem wcell_zero (o : Nat) (f : Nat → Nat) (F : Nat → Value) (t : Nat) : wcell o 0 f F t = F t := by unfold wcell; rw [if_neg (by omega)]
theorem wcell_next (o k : Nat) (f : Nat → Nat) (F : Nat → Value) (t : Nat) : wcell o (k + 1) f F t = if t = o + k then .int .u32 (f k : Int) else wcell o k f F t := by
  unfold wcell
  by_cases e : t = o + k
  · subst e; rw [if_pos (by omega), if_pos rfl, show o + k - o = k by omega]
  · rw [if_neg e]
    by_cases h : o ≤ t ∧ t < o + k
    · rw [if_pos (by omega), if_pos h]
    · rw [if_neg (by omega), if_neg h]
theorem wcell_out {o k : Nat} (f : Nat → Nat) (F : Nat → Value) : wcell o k f F (o + k) = F (o + k) := by unfold wcell; rw [if_neg (by omega)]
theorem and_low (T : Nat) (hT : T ≤ 18446744073709551615) : bits .and .u64 (T : Int) 4294967295 = ((T % 4294967296 : Nat) : Int) := by
  have h := Go.bits_and_u64_nat T 4294967295 (by omega) (by omega)
  rw [Nat.and_two_pow_sub_one_eq_mod T 32] at h
  exact h
theorem wrap_digits {X β k m : Nat} (hk : k < m) : d32 (X + 4294967296 ^ m * β) k = d32 X k := Nt.chain_lo (by omega) X β hk
theorem wrap_borrow {X z P β m : Nat} (hz : Fit32 z m) (hP : Fit32 P m) (hX : Fit32 X m) (h : z + P = X + 4294967296 ^ m * β) : c32 z P m = β := by
  have h1 : c32 z P m = (z + P) / 4294967296 ^ m := Nt.car_end hz hP
  rw [h1, h, Nat.add_mul_div_left _ _ (Nat.pow_pos (by omega)), Nat.div_eq_of_lt hX, Nat.zero_add]

theorem f32_le {f : Nat} (hf : f ≤ 4294967296) (y k : Nat) : f32 f y k ≤ 4294967295 := by
  rcases Nat.eq_zero_or_pos f with rfl | h
  · have : f32 0 y k = 0 := by unfold f32 Nt.fcar; rw [Nat.zero_mul, Nat.zero_div]
    omega
  · have := f32_lt h y k; omega
set_option maxHeartbeats 2000000 in
set_option maxRecDepth 100000 in
theorem subtract_any {g o M m c cv X v G z β : Nat} {E : Option Addr} {F : Nat → Value} {w : World} (hm : m ≤ 1000) (ho : o ≤ 1000) (hM : o + m + 1 ≤ M) (hG : G ≤ 4294967296) (hv : Fit32 v m) (hX : Fit32 X (m + 1)) (hz : Fit32 z (m + 1)) (hP : Fit32 (G * v) (m + 1))
    (hzx : z + G * v = X + 4294967296 ^ (m + 1) * β) (hA : Arr w g 65 M F) (hF : ∀ j, j < m + 1 → F (o + j) = .int .u32 (d32 X j : Int))
    (hE : ∀ wr, w.grownBy wr (some g) → Cells wr E m (Lm (d32 v))) :
    Calls Tryz.prog 95 #[.slice (some ⟨g, o, none⟩) (m + 1) c, .slice E m cv, .int .u64 (G : Int)] w fun e w' => e = .returned (.bool ((β : Int) != 0)) ∧ Arr w' g 65 M (wcell o (m + 1) (d32 z) F) ∧ w.grownBy w' (some g) := by
  have HA := Lib.hid (hA.congr (F' := wcell o 0 (d32 z) F) fun j _ => (wcell_zero o _ F j).symm)
  have HE := Lib.hid hE
  have HF := Lib.hid hF
  have HZX := Lib.hid hzx
  have HBo := Lib.hid (wrap_borrow hz hP hX hzx)
  have HVZ := Lib.hid (fun k (hk : m ≤ k) => show d32 v k = 0 from Nt.dig_high (Nat.lt_of_lt_of_le hv (Nat.pow_le_pow_right (by omega) hk)))
  clear hA hE hF hzx hX hz hP
  go_enter Tryz.func95, Tryz.ntmps95
  go_wp2
  go_loopw [7, 8, 14] (fun cr bo i wr => ∃ k : Nat, k ≤ m + 1 ∧ i = .int .i64 k ∧ cr = .int .u64 (f32 G v k : Int) ∧ bo = .int .u64 (c32 z (G * v) k : Int) ∧ Hid (Arr wr g 65 M (wcell o k (d32 z) F)) ∧ Hid (w.grownBy wr (some g))) (fun _ _ i _ => m + 1 - (intOf i).toNat)
  case atStart => exact ⟨0, Nat.zero_le _, rfl, by rw [f32_zero]; rfl, by rw [c32_zero]; rfl, HA, only_refl _ _⟩
  case round =>
    obtain ⟨k, hk, rfl, rfl, rfl, HA1, HG1⟩ := hrel
    by_cases hkm : k < m + 1
    · obtain ⟨hc, hf⟩ := HA1.out.at_ (show o + k < M by omega)
      have hc2 : wr.cell? ⟨g, o + k, none⟩ = some (.int .u32 (d32 X k : Int)) := by rw [hc, wcell_out]; exact congrArg some (HF.out k hkm)
      have hst := s32_step HZX.out k
      rw [wrap_digits hkm] at hst
      have HST := Lib.hid hst
      have hfs := f32_step G v k
      have hfl := f32_le hG v k
      have hfl2 := f32_le hG v (k + 1)
      have hcl := c32_le z (G * v) k
      have hdx := d32_lt X k
      have hdv := d32_lt v k
      have hdz := d32_lt z k
      have hdp := d32_lt (G * v) k
      have hpr : G * d32 v k ≤ 18446744069414584320 := Nat.le_trans (Nat.mul_le_mul hG (show d32 v k ≤ 4294967295 by omega)) (by omega)
      obtain ⟨T, hT⟩ : ∃ T, T = f32 G v k + G * d32 v k := ⟨_, rfl⟩
      rw [← hT] at hfs
      have hTb : T ≤ 18446744073709551615 := by omega
      have hand := and_low T hTb
      rw [show T % 4294967296 = d32 (G * v) k by omega] at hand
      have hdiv : ((T : Nat) : Int) / 4294967296 = (f32 G v (k + 1) : Int) := by omega
      have hpi0 : (0 : Int) ≤ (G : Int) * (d32 v k : Int) := Int.mul_nonneg (by omega) (by omega)
      have hpi1 : (G : Int) * (d32 v k : Int) ≤ 18446744069414584320 := by rw [← Int.natCast_mul]; omega
      have hsum : (f32 G v k : Int) + (G : Int) * (d32 v k : Int) = (T : Int) := by rw [hT, Int.natCast_add, Int.natCast_mul]
      have hk0 : (0 : Int) ≤ (k : Int) := by omega
      have HU := Lib.hid fun t => wcell_next o k (d32 z) F t
      clear hc hst hT hfs
      by_cases hkv : k < m
      · obtain ⟨b2, o2, rfl, hlt2, hc3⟩ := (HE.out wr HG1.out).lm hkv
        by_cases hcm : d32 X k < c32 z (G * v) k + d32 (G * v) k
        · have hcm2 : ((d32 X k : Nat) : Int) < (d32 (G * v) k : Int) + (c32 z (G * v) k : Int) := by omega
          have HE1 := Lib.hid (HST.out.1 hcm)
          clear hcm
          go_wp2
          go_roundw
          case rel =>
            have e1 : ((d32 X k : Int) + 4294967296 - ((d32 (G * v) k : Int) + (c32 z (G * v) k : Int))) = (d32 z k : Int) := by have := HE1.out.2; omega
            rw [e1]
            have hp := HA1.out.put (k := o + k) (F' := wcell o (k + 1) (d32 z) F) (u := .int .u32 (d32 z k : Int)) fun t _ => HU.out t
            exact ⟨k + 1, by omega, by go_num, rfl, by rw [HE1.out.1]; rfl, hp.1, grown_on HG1.out hp.2⟩
          case measure => simp [intOf]; omega
        · have hcm2 : (d32 (G * v) k : Int) + (c32 z (G * v) k : Int) ≤ ((d32 X k : Nat) : Int) := by omega
          have HE1 := Lib.hid (HST.out.2 hcm)
          clear hcm
          go_wp2
          go_roundw
          case rel =>
            have e1 : ((d32 X k : Int) - ((d32 (G * v) k : Int) + (c32 z (G * v) k : Int))) = (d32 z k : Int) := by have := HE1.out.2; omega
            rw [e1]
            have hp := HA1.out.put (k := o + k) (F' := wcell o (k + 1) (d32 z) F) (u := .int .u32 (d32 z k : Int)) fun t _ => HU.out t
            exact ⟨k + 1, by omega, by go_num, rfl, by rw [HE1.out.1]; rfl, hp.1, grown_on HG1.out hp.2⟩
          case measure => simp [intOf]; omega
      · have hvz := HVZ.out k (by omega)
        have hT2 : T = f32 G v k := by have h := hsum; rw [hvz] at h; omega
        have hand2 : bits .and .u64 (f32 G v k : Int) 4294967295 = (d32 (G * v) k : Int) := by rw [← hT2]; exact hand
        have hdiv2 : (f32 G v k : Int) / 4294967296 = (f32 G v (k + 1) : Int) := by rw [← hT2]; exact hdiv
        clear hand hdiv hsum hT2 hvz
        by_cases hcm : d32 X k < c32 z (G * v) k + d32 (G * v) k
        · have hcm2 : ((d32 X k : Nat) : Int) < (d32 (G * v) k : Int) + (c32 z (G * v) k : Int) := by omega
          have HE1 := Lib.hid (HST.out.1 hcm)
          clear hcm
          go_wp2
          go_roundw
          case rel =>
            have e1 : ((d32 X k : Int) + 4294967296 - ((d32 (G * v) k : Int) + (c32 z (G * v) k : Int))) = (d32 z k : Int) := by have := HE1.out.2; omega
            rw [e1]
            have hp := HA1.out.put (k := o + k) (F' := wcell o (k + 1) (d32 z) F) (u := .int .u32 (d32 z k : Int)) fun t _ => HU.out t
            exact ⟨k + 1, by omega, by go_num, rfl, by rw [HE1.out.1]; rfl, hp.1, grown_on HG1.out hp.2⟩
          case measure => simp [intOf]; omega
        · have hcm2 : (d32 (G * v) k : Int) + (c32 z (G * v) k : Int) ≤ ((d32 X k : Nat) : Int) := by omega
          have HE1 := Lib.hid (HST.out.2 hcm)
          clear hcm
          go_wp2
          go_roundw
          case rel =>
            have e1 : ((d32 X k : Int) - ((d32 (G * v) k : Int) + (c32 z (G * v) k : Int))) = (d32 z k : Int) := by have := HE1.out.2; omega
            rw [e1]
            have hp := HA1.out.put (k := o + k) (F' := wcell o (k + 1) (d32 z) F) (u := .int .u32 (d32 z k : Int)) fun t _ => HU.out t
            exact ⟨k + 1, by omega, by go_num, rfl, by rw [HE1.out.1]; rfl, hp.1, grown_on HG1.out hp.2⟩
          case measure => simp [intOf]; omega
    · obtain rfl : k = m + 1 := by omega
      rw [HBo.out]
      have hβ : (β : Int) ≤ 1 := by have := c32_le z (G * v) (m + 1); have := HBo.out; omega
      go_wp2
      go_ret
      exact ⟨rfl, HA1.out, HG1.out⟩

set_option maxHeartbeats 2000000 in
set_option maxRecDepth 100000 in
theorem restore_any {g o M m c cv z v : Nat} {E : Option Addr} {F : Nat → Value} {w : World} (hm : m ≤ 1000) (ho : o ≤ 1000) (hM : o + m + 1 ≤ M) (hv : Fit32 v m) (hA : Arr w g 65 M F) (hF : ∀ j, j < m + 1 → F (o + j) = .int .u32 (d32 z j : Int))
    (hE : ∀ wr, w.grownBy wr (some g) → Cells wr E m (Lm (d32 v))) :
    Calls Tryz.prog 96 #[.slice (some ⟨g, o, none⟩) (m + 1) c, .slice E m cv] w fun e w' => e = .returned (.tuple #[]) ∧ Arr w' g 65 M (wcell o (m + 1) (d32 (z + v)) F) ∧ w.grownBy w' (some g) := by
  have HA := Lib.hid (hA.congr (F' := wcell o 0 (d32 (z + v)) F) fun j _ => (wcell_zero o _ F j).symm)
  have HE := Lib.hid hE
  have HF := Lib.hid hF
  have HVZ := Lib.hid (fun k (hk : m ≤ k) => show d32 v k = 0 from Nt.dig_high (Nat.lt_of_lt_of_le hv (Nat.pow_le_pow_right (by omega) hk)))
  clear hA hE hF hv
  go_enter Tryz.func96, Tryz.ntmps96
  go_wp2
  go_loopw [4, 8] (fun cr i wr => ∃ k : Nat, k ≤ m + 1 ∧ i = .int .i64 k ∧ cr = .int .u64 (c32 z v k : Int) ∧ Hid (Arr wr g 65 M (wcell o k (d32 (z + v)) F)) ∧ Hid (w.grownBy wr (some g))) (fun _ i _ => m + 1 - (intOf i).toNat)
  case atStart => exact ⟨0, Nat.zero_le _, rfl, by rw [c32_zero]; rfl, HA, only_refl _ _⟩
  case round =>
    obtain ⟨k, hk, rfl, rfl, HA1, HG1⟩ := hrel
    by_cases hkm : k < m + 1
    · obtain ⟨hc, hf⟩ := HA1.out.at_ (show o + k < M by omega)
      have hc2 : wr.cell? ⟨g, o + k, none⟩ = some (.int .u32 (d32 z k : Int)) := by rw [hc, wcell_out]; exact congrArg some (HF.out k hkm)
      have hst := c32_step z v k
      have HST := Lib.hid hst
      have hcl := c32_le z v k
      have hcl2 := c32_le z v (k + 1)
      have hdx := d32_lt z k
      have hdv := d32_lt v k
      have hdz := d32_lt (z + v) k
      have hk0 : (0 : Int) ≤ (k : Int) := by omega
      have HU := Lib.hid fun t => wcell_next o k (d32 (z + v)) F t
      clear hc hst
      by_cases hkv : k < m
      · obtain ⟨b2, o2, rfl, hlt2, hc3⟩ := (HE.out wr HG1.out).lm hkv
        go_wp2
        go_roundw
        case rel =>
          have e1 : ((c32 z v k : Int) + (d32 z k : Int) + (d32 v k : Int)) % 4294967296 = (d32 (z + v) k : Int) := by have := HST.out; omega
          have e2 : ((c32 z v k : Int) + (d32 z k : Int) + (d32 v k : Int)) / 4294967296 = (c32 z v (k + 1) : Int) := by have := HST.out; omega
          rw [e1, e2]
          have hp := HA1.out.put (k := o + k) (F' := wcell o (k + 1) (d32 (z + v)) F) (u := .int .u32 (d32 (z + v) k : Int)) fun t _ => HU.out t
          exact ⟨k + 1, by omega, by go_num, rfl, hp.1, grown_on HG1.out hp.2⟩
        case measure => simp [intOf]; omega
      · have HZ := Lib.hid (HVZ.out k (by omega))
        go_wp2
        go_roundw
        case rel =>
          have e1 : ((c32 z v k : Int) + (d32 z k : Int)) % 4294967296 = (d32 (z + v) k : Int) := by have := HST.out; have := HZ.out; omega
          have e2 : ((c32 z v k : Int) + (d32 z k : Int)) / 4294967296 = (c32 z v (k + 1) : Int) := by have := HST.out; have := HZ.out; omega
          rw [e1, e2]
          have hp := HA1.out.put (k := o + k) (F' := wcell o (k + 1) (d32 (z + v)) F) (u := .int .u32 (d32 (z + v) k : Int)) fun t _ => HU.out t
          exact ⟨k + 1, by omega, by go_num, rfl, hp.1, grown_on HG1.out hp.2⟩
        case measure => simp [intOf]; omega
    · obtain rfl : k = m + 1 := by omega
      go_wp2
      go_end0
      exact ⟨rfl, HA1.out, HG1.out⟩
end Go.Proofs.YtdcmpnjhomhhiaaGreat

/- Long division in plain Lean: what stands in the rest, and the guess of a digit. -/
set_option linter.unusedVariables false
namespace Go.Proofs.YtdcmpnjhomhhiaaGreat

def lrest (u v k : Nat) : Nat := u / 4294967296 ^ k % v
def lwin (u v j : Nat) : Nat := lrest u v (j + 1) * 4294967296 + d32 u j
theorem lwin_quo {u v j : Nat} (hv : 0 < v) : d32 (u / v) j = lwin u v j / v := Nt.dig_quo (by omega) hv
theorem lwin_rem {u v j : Nat} (hv : 0 < v) : lrest u v j = lwin u v j % v := Nt.win_mod (by omega) hv
theorem lwin_lt {u v j : Nat} (hv : 0 < v) : lwin u v j < v * 4294967296 := Nt.win_lt (by omega) hv
theorem lrest_lt {u v k : Nat} (hv : 0 < v) : lrest u v k < v := Nat.mod_lt _ hv
theorem d32_cat {r d t : Nat} (hd : d < 4294967296) : d32 (r * 4294967296 + d) t = if t = 0 then d else d32 r (t - 1) := by
  by_cases h : t = 0
  · subst h
    rw [if_pos rfl]
    unfold d32 Nt.dig
    rw [Nat.pow_zero, Nat.div_one]; omega
  · rw [if_neg h]
    obtain ⟨k, rfl⟩ : ∃ k, t = k + 1 := ⟨t - 1, by omega⟩
    unfold d32 Nt.dig
    rw [Nat.add_sub_cancel, Nat.pow_succ, Nat.mul_comm (4294967296 ^ k), ← Nat.div_div_eq_div_mul, show (r * 4294967296 + d) / 4294967296 = r by omega]
/-- What stands in the rest when the digits from k on are done. -/
def rcell (u v k t : Nat) : Nat := if t < k then d32 u t else d32 (lrest u v k) (t - k)
theorem rcell_start {u v k : Nat} (h : u / 4294967296 ^ k < v) (t : Nat) : rcell u v k t = d32 u t := by
  unfold rcell
  by_cases ht : t < k
  · rw [if_pos ht]
  · rw [if_neg ht]
    unfold lrest
    rw [Nat.mod_eq_of_lt h]
    unfold d32 Nt.dig
    rw [Nat.div_div_eq_div_mul, ← Nat.pow_add, show k + (t - k) = t by omega]
theorem rcell_win (u v j t : Nat) : rcell u v (j + 1) (j + t) = d32 (lwin u v j) t := by
  unfold lwin
  rw [d32_cat (d32_lt u j)]
  unfold rcell
  by_cases h : t = 0
  · subst h; rw [if_pos (by omega), if_pos rfl, Nat.add_zero]
  · rw [if_neg (by omega), if_neg h, show j + t - (j + 1) = t - 1 by omega]
theorem high_zero {x m t : Nat} (h : Fit32 x m) (ht : m ≤ t) : d32 x t = 0 := Nt.dig_high (Nat.lt_of_lt_of_le h (Nat.pow_le_pow_right (by omega) ht))
theorem rcell_next {u v j m : Nat} (hv0 : 0 < v) (hv : Fit32 v m) (t : Nat) : (if j ≤ t ∧ t < j + (m + 1) then d32 (lwin u v j % v) (t - j) else rcell u v (j + 1) t) = rcell u v j t := by
  unfold rcell
  rw [← lwin_rem hv0]
  by_cases h : t < j
  · rw [if_neg (by omega), if_pos (by omega), if_pos h]
  · rw [if_neg h]
    by_cases h2 : t < j + (m + 1)
    · rw [if_pos ⟨by omega, h2⟩]
    · rw [if_neg (by omega), if_neg (by omega)]
      have h3 : Fit32 (lrest u v (j + 1)) m := Nat.lt_trans (lrest_lt hv0) hv
      have h4 : Fit32 (lrest u v j) m := Nat.lt_trans (lrest_lt hv0) hv
      rw [high_zero h3 (by omega), high_zero h4 (by omega)]
theorem rcell_end (u v t : Nat) : rcell u v 0 t = d32 (u % v) t := by
  unfold rcell lrest
  rw [if_neg (by omega), Nat.pow_zero, Nat.div_one, Nat.sub_zero]

/-! The guess of a digit: W is divided by v, which has m limbs. -/
structure Gs (W v m top next head w2 : Nat) : Prop where
  hm : 2 ≤ m
  fit : Fit32 v m
  big : 4294967296 ^ (m - 1) ≤ v
  half : 4294967296 ≤ 2 * top
  small : W < v * 4294967296
  v2 : v / 4294967296 ^ (m - 2) = top * 4294967296 + next
  w3 : W / 4294967296 ^ (m - 2) = head * 4294967296 + w2
  n1 : next < 4294967296
  n2 : w2 < 4294967296
theorem Gs.mk_ {W v m : Nat} (hm : 2 ≤ m) (fit : Fit32 v m) (big : 4294967296 ^ (m - 1) ≤ v) (half : 4294967296 ≤ 2 * d32 v (m - 1)) (small : W < v * 4294967296) :
    Gs W v m (d32 v (m - 1)) (d32 v (m - 2)) (d32 W m * 4294967296 + d32 W (m - 1)) (d32 W (m - 2)) := by
  have hW : W < 4294967296 ^ (m + 1) := by
    rw [Nat.pow_succ]
    exact Nat.lt_trans small (Nat.mul_lt_mul_of_pos_right fit (by omega))
  refine ⟨hm, fit, big, half, small, ?_, ?_, d32_lt _ _, d32_lt _ _⟩
  · have h1 := Nt.div_next 4294967296 v (m - 2)
    have h2 := Nt.div_next 4294967296 v (m - 1)
    rw [show m - 2 + 1 = m - 1 by omega] at h1
    rw [show m - 1 + 1 = m by omega, Nat.div_eq_of_lt fit, Nat.zero_mul, Nat.zero_add] at h2
    rw [h1, h2]; rfl
  · have h1 := Nt.div_next 4294967296 W (m - 2)
    have h2 := Nt.div_next 4294967296 W (m - 1)
    have h3 := Nt.div_next 4294967296 W m
    rw [show m - 2 + 1 = m - 1 by omega] at h1
    rw [show m - 1 + 1 = m by omega] at h2
    rw [Nat.div_eq_of_lt hW, Nat.zero_mul, Nat.zero_add] at h3
    rw [h1, h2, h3]; rfl
variable {W v m top next head w2 : Nat}
theorem Gs.pos (g : Gs W v m top next head w2) : 0 < v := Nat.lt_of_lt_of_le (Nat.pow_pos (by omega)) g.big
theorem Gs.qlt (g : Gs W v m top next head w2) : W / v < 4294967296 := (Nat.div_lt_iff_lt_mul g.pos).2 (by rw [Nat.mul_comm]; exact g.small)
theorem Gs.qd (g : Gs W v m top next head w2) : W / v * (top * 4294967296 + next) ≤ head * 4294967296 + w2 := by
  rw [← g.v2, ← g.w3]
  have he : 0 < 4294967296 ^ (m - 2) := Nat.pow_pos (by omega)
  refine Nt.guess_le (R := W) (v := v) (e := 4294967296 ^ (m - 2)) (Nat.div_mul_le_self _ _) (Nat.div_mul_le_self _ _) ?_
  have := Nat.lt_mul_div_succ W he
  rw [Nat.mul_comm]; exact this
theorem Gs.start (g : Gs W v m top next head w2) : W / v ≤ head / top ∧ head / top ≤ 4294967297 := by
  have h0 : 0 < top := by have := g.half; omega
  constructor
  · refine (Nat.le_div_iff_mul_le h0).2 ?_
    have h1 := g.qd
    have h2 := g.n2
    rw [Nat.mul_add, ← Nat.mul_assoc] at h1
    generalize W / v * top = a at *
    generalize W / v * next = b at *
    omega
  · have h1 : head * 4294967296 + w2 < (top * 4294967296 + next + 1) * 4294967296 := by
      rw [← g.w3, ← g.v2]
      have he : 0 < 4294967296 ^ (m - 2) := Nat.pow_pos (by omega)
      refine (Nat.div_lt_iff_lt_mul he).2 (Nat.lt_of_lt_of_le g.small ?_)
      have h2 := Nat.lt_mul_div_succ v he
      rw [Nat.mul_right_comm]
      refine Nat.mul_le_mul_right _ ?_
      rw [Nat.mul_comm]; omega
    have h2 := g.n1
    have h3 : head / top < 4294967298 := (Nat.div_lt_iff_lt_mul h0).2 (by have := g.half; omega)
    omega
theorem Gs.less (g : Gs W v m top next head w2) {G l : Nat} (hl : G * top + l = head) (hq : W / v ≤ G) (h : 4294967296 ≤ G ∨ l * 4294967296 + w2 < G * next) : W / v < G := by
  rcases Nat.lt_or_ge (W / v) G with h1 | h1
  · exact h1
  · have e : W / v = G := by omega
    have h2 := g.qlt
    have h3 := g.qd
    rw [e, Nat.mul_add, ← Nat.mul_assoc] at h3
    rcases h with h | h
    · omega
    · generalize G * top = a at *
      generalize G * next = b at *
      omega
theorem Gs.done (g : Gs W v m top next head w2) {G l : Nat} (hl : G * top + l = head) (hG : G ≤ 4294967296) (hq : W / v ≤ G) (h : 4294967296 ≤ l ∨ G * next ≤ l * 4294967296 + w2) : W / v = G ∨ W / v + 1 = G := by
  have hn : G * next ≤ l * 4294967296 + w2 := by
    rcases h with h | h
    · have h1 : G * next ≤ 4294967296 * 4294967295 := Nat.mul_le_mul hG (by have := g.n1; omega)
      omega
    · exact h
  refine Nt.guess_end g.pos hq ?_
  rcases Nat.eq_zero_or_pos G with h0 | h0
  · exact .inl h0
  · right
    have he : 0 < 4294967296 ^ (m - 2) := Nat.pow_pos (by omega)
    refine Nt.guess_ge (d2 := top * 4294967296 + next) (u3 := head * 4294967296 + w2) (e := 4294967296 ^ (m - 2)) ?_ ?_ ?_ ?_ g.pos h0
    · rw [Nat.mul_add, ← Nat.mul_assoc]
      generalize G * top = a at *
      generalize G * next = b at *
      omega
    · rw [← g.w3]; exact Nat.div_mul_le_self _ _
    · rw [← g.v2]
      have h2 := Nat.lt_mul_div_succ v he
      rw [Nat.mul_comm]; omega
    · refine Nat.le_trans (Nat.mul_le_mul_right _ hG) ?_
      have h3 : 4294967296 * 4294967296 ^ (m - 2) = 4294967296 ^ (m - 1) := by
        rw [Nat.mul_comm, ← Nat.pow_succ, show (m - 2).succ = m - 1 by have := g.hm; omega]
      rw [h3]; exact g.big
theorem norm_top {y m s : Nat} (hm : 0 < m) (hy : Fit32 y m) (h1 : 2 ^ s * d32 y (m - 1) < 4294967296) (h2 : 2147483648 ≤ 2 ^ s * d32 y (m - 1)) (hs : s ≤ 31) :
    Fit32 (2 ^ s * y) m ∧ 4294967296 ≤ 2 * d32 (2 ^ s * y) (m - 1) ∧ 4294967296 ^ (m - 1) ≤ 2 ^ s * y := by
  have he : 0 < 4294967296 ^ (m - 1) := Nat.pow_pos (by omega)
  have hB : 4294967296 ^ m = 4294967296 * 4294967296 ^ (m - 1) := by rw [Nat.mul_comm, ← Nat.pow_succ, show (m - 1).succ = m by omega]
  have hyt : d32 y (m - 1) = y / 4294967296 ^ (m - 1) := by
    unfold d32 Nt.dig
    refine Nat.mod_eq_of_lt ((Nat.div_lt_iff_lt_mul he).2 ?_)
    rw [← hB]; exact hy
  have h3 : 2 ^ s * 2 ^ (32 - s) = 4294967296 := by rw [← Nat.pow_add, show s + (32 - s) = 32 by omega]
  have h4 : d32 y (m - 1) < 2 ^ (32 - s) := by
    rw [← h3] at h1
    exact Nat.lt_of_mul_lt_mul_left h1
  have h5 : 2 ^ s * (d32 y (m - 1) + 1) ≤ 4294967296 := by rw [← h3]; exact Nat.mul_le_mul_left _ h4
  have h6 : y < (d32 y (m - 1) + 1) * 4294967296 ^ (m - 1) := by
    rw [hyt, Nat.mul_comm]; exact Nat.lt_mul_div_succ y he
  have h7 : d32 y (m - 1) * 4294967296 ^ (m - 1) ≤ y := by rw [hyt]; exact Nat.div_mul_le_self _ _
  have hfit : 2 ^ s * y < 4294967296 ^ m := by
    rw [hB]
    refine Nat.lt_of_lt_of_le (Nat.mul_lt_mul_of_pos_left h6 (Nat.pow_pos (by omega))) ?_
    rw [← Nat.mul_assoc]
    exact Nat.mul_le_mul_right _ h5
  have h8 : 2 ^ s * d32 y (m - 1) * 4294967296 ^ (m - 1) ≤ 2 ^ s * y := by rw [Nat.mul_assoc]; exact Nat.mul_le_mul_left _ h7
  have h9 : d32 (2 ^ s * y) (m - 1) = 2 ^ s * y / 4294967296 ^ (m - 1) := by
    unfold d32 Nt.dig
    refine Nat.mod_eq_of_lt ((Nat.div_lt_iff_lt_mul he).2 ?_)
    rw [← hB]; exact hfit
  have h10 : 2 ^ s * d32 y (m - 1) ≤ 2 ^ s * y / 4294967296 ^ (m - 1) := (Nat.le_div_iff_mul_le he).2 h8
  refine ⟨hfit, by rw [h9]; omega, Nat.le_trans ?_ h8⟩
  exact Nat.le_mul_of_pos_left _ (by omega)
theorem long_start {x y n m s : Nat} (hx : Fit32 x n) (hmn : m ≤ n) (hm : 0 < m) (hy : 4294967296 ^ (m - 1) ≤ y) : 2 ^ s * x / 4294967296 ^ (n - m + 1) < 2 ^ s * y := by
  refine (Nat.div_lt_iff_lt_mul (Nat.pow_pos (by omega))).2 ?_
  rw [Nat.mul_assoc]
  refine Nat.mul_lt_mul_of_pos_left (Nat.lt_of_lt_of_le hx ?_) (Nat.pow_pos (by omega))
  have : 4294967296 ^ n = 4294967296 ^ (m - 1) * 4294967296 ^ (n - m + 1) := by rw [← Nat.pow_add, show m - 1 + (n - m + 1) = n by omega]
  rw [this]
  exact Nat.mul_le_mul_right _ hy
theorem len_big {y m : Nat} (hm : 0 < m) (h : m = L32 y) : 4294967296 ^ (m - 1) ≤ y := by
  have h0 : 0 < y := by
    rcases Nat.eq_zero_or_pos y with e | e
    · rw [e] at h; have := L32_zero.2 (rfl : (0 : Nat) = 0); omega
    · exact e
  have := Nt.pow_len_le (b := 4294967296) (by omega) y h0
  rw [h]; exact this
end Go.Proofs.YtdcmpnjhomhhiaaGreat

/- Plain facts for the rest of nat.divideLong. -/
set_option linter.unusedVariables false
namespace Go.Proofs.YtdcmpnjhomhhiaaGreat
open Go.RowKit

theorem guess_case {W v G m : Nat} (hv0 : 0 < v) (hfit : Fit32 v m) (hW : W < v * 4294967296) (hG : G ≤ 4294967296) (hq : W / v = G ∨ W / v + 1 = G) :
    ∃ z β, Fit32 W (m + 1) ∧ Fit32 z (m + 1) ∧ Fit32 (G * v) (m + 1) ∧ z + G * v = W + 4294967296 ^ (m + 1) * β ∧ ((β = 0 ∧ G = W / v ∧ z = W % v) ∨ (β = 1 ∧ G - 1 = W / v ∧ 1 ≤ G ∧ z + v = W % v + 4294967296 ^ (m + 1) * 1)) := by
  unfold Fit32 at *
  have hB : 4294967296 ^ (m + 1) = 4294967296 * 4294967296 ^ m := by rw [Nat.pow_succ, Nat.mul_comm]
  have hm := Nat.div_add_mod W v
  have hml := Nat.mod_lt W hv0
  have hGv : G * v ≤ 4294967296 * v := Nat.mul_le_mul_right v hG
  obtain ⟨P, hP⟩ : ∃ P, P = 4294967296 ^ m := ⟨_, rfl⟩
  rw [← hP] at hB hfit
  rw [hB]
  clear hP hB
  obtain ⟨q, hqe⟩ : ∃ q, q = W / v := ⟨_, rfl⟩
  obtain ⟨r, hre⟩ : ∃ r, r = W % v := ⟨_, rfl⟩
  rw [← hqe, ← hre] at hm
  rw [← hre] at hml
  rw [← hqe] at hq
  rw [← hqe, ← hre]
  clear hqe hre
  rcases hq with h | h
  · have h2 : G * v = v * q := by rw [← h, Nat.mul_comm]
    exact ⟨r, 0, by omega, by omega, by omega, by omega, .inl ⟨rfl, h.symm, rfl⟩⟩
  · have h2 : G * v = v * q + v := by rw [← h, Nat.add_mul, Nat.one_mul, Nat.mul_comm]
    exact ⟨4294967296 * P + r - v, 1, by omega, by omega, by omega, by omega, .inr ⟨rfl, by omega, by omega, by omega⟩⟩

/-- a digit of the number shifted down -/
theorem down_digit {R s p q : Nat} (hp : p = 2 ^ s) (hpq : p * q = 4294967296) (i : Nat) : d32 (R / p) i = d32 R i / p + d32 R (i + 1) * q % 4294967296 := by
  have hp0 : 0 < p := by rw [hp]; exact Nat.pow_pos (by omega)
  have hq0 : 0 < q := by rcases Nat.eq_zero_or_pos q with h | h; · rw [h] at hpq; omega
                         · exact h
  unfold d32 Nt.dig
  rw [Nat.pow_succ, ← Nat.div_div_eq_div_mul, Nat.div_div_eq_div_mul, Nat.mul_comm p, ← Nat.div_div_eq_div_mul]
  generalize R / 4294967296 ^ i = T
  obtain ⟨a, ha⟩ : ∃ a, a = T % 4294967296 := ⟨_, rfl⟩
  obtain ⟨T1, hT1⟩ : ∃ T1, T1 = T / 4294967296 := ⟨_, rfl⟩
  obtain ⟨b, hb⟩ : ∃ b, b = T1 % 4294967296 := ⟨_, rfl⟩
  obtain ⟨T2, hT2⟩ : ∃ T2, T2 = T1 / 4294967296 := ⟨_, rfl⟩
  rw [← ha, ← hT1, ← hb]
  have e1 : T = p * (q * T1) + a := by rw [← Nat.mul_assoc, hpq]; omega
  have e2 : T1 = 4294967296 * T2 + b := by omega
  have hal : a < 4294967296 := by omega
  have hd : T / p = q * T1 + a / p := by rw [e1, Nat.mul_add_div hp0]
  have hap : a / p < q := (Nat.div_lt_iff_lt_mul hp0).2 (by rw [Nat.mul_comm, hpq]; exact hal)
  have e3 : q * T1 = 4294967296 * (q * T2) + b * q := by rw [e2, Nat.mul_add, Nat.mul_left_comm, Nat.mul_comm q b]
  have e4 : b * q % 4294967296 = q * (b % p) := by
    rw [← hpq, Nat.mul_comm b q, Nat.mul_comm p q, Nat.mul_mod_mul_left]
  have hbp : b % p < p := Nat.mod_lt _ hp0
  have e5 : q * (b % p) + q ≤ 4294967296 := by
    rw [← hpq, Nat.mul_comm p q, ← Nat.mul_succ]
    exact Nat.mul_le_mul_left q hbp
  rw [hd, e3, show 4294967296 * (q * T2) + b * q + a / p = b * q + a / p + 4294967296 * (q * T2) by omega, Nat.add_mul_mod_self_left, Nat.add_mod, e4]
  have hap2 : a / p % 4294967296 = a / p := Nat.mod_eq_of_lt (by omega)
  rw [hap2]
  omega
theorem or32 (a b : Nat) (ha : a < 4294967296) (hb : b < 4294967296) : bits .or .u32 (a : Int) (b : Int) = ((a ||| b : Nat) : Int) := by
  have hx : a ||| b < 2 ^ 32 := Nat.or_lt_two_pow (by omega) (by omega)
  have h1 : (BitVec.ofInt 32 (a : Int)).toNat = a := by
    rw [BitVec.ofInt_natCast, BitVec.toNat_ofNat]; exact Nat.mod_eq_of_lt (by omega)
  have h2 : (BitVec.ofInt 32 (b : Int)).toNat = b := by
    rw [BitVec.ofInt_natCast, BitVec.toNat_ofNat]; exact Nat.mod_eq_of_lt (by omega)
  show IntKind.u32.wrap ((BitVec.ofInt 32 (a : Int) ||| BitVec.ofInt 32 (b : Int)).toNat : Int) = _
  rw [BitVec.toNat_or, h1, h2, IntKind.wrap_u32]
  omega
theorem or_down {A R k s p q : Nat} (hp : p = 2 ^ s) (hq : q = 2 ^ (32 - s)) (hpq : p * q = 4294967296) (hs : s ≤ 31) (h : d32 A k = d32 R k / p + d32 R (k + 1) * q % 4294967296) :
    bits .or .u32 ((d32 R k / p : Nat) : Int) ((d32 R (k + 1) * q % 4294967296 : Nat) : Int) = (d32 A k : Int) := by
  have hp0 : 0 < p := by rw [hp]; exact Nat.pow_pos (by omega)
  have ha := d32_lt R k
  have hap : d32 R k / p < 2 ^ (32 - s) := by rw [← hq]; exact (Nat.div_lt_iff_lt_mul hp0).2 (by rw [Nat.mul_comm, hpq]; exact ha)
  have e4 : d32 R (k + 1) * q % 4294967296 = 2 ^ (32 - s) * (d32 R (k + 1) % p) := by
    rw [← hpq, Nat.mul_comm _ q, Nat.mul_comm p q, Nat.mul_mod_mul_left, hq]
  have h1 : d32 R k / p ≤ d32 R k := Nat.div_le_self _ _
  have h2 : d32 R (k + 1) * q % 4294967296 < 4294967296 := Nat.mod_lt _ (by omega)
  rw [or32 _ _ (by omega) (by omega), h, Nat.or_comm, e4, ← Nat.two_pow_add_eq_or_of_lt hap, Nat.add_comm]
theorem or_down2 {A R k s p q : Nat} (hp : p = 2 ^ s) (hq : q = 2 ^ (32 - s)) (hpq : p * q = 4294967296) (hs : s ≤ 31) (h : d32 A k = d32 R k / p + d32 R (k + 1) * q % 4294967296) :
    bits .or .u32 ((d32 R k : Int) / (p : Int)) (IntKind.u64.wrap (IntKind.u64.wrap (d32 R (k + 1) : Int) * 2 ^ (32 - s)) % 4294967296) = (d32 A k : Int) := by
  have hb := d32_lt R (k + 1)
  have hq2 : q ≤ 4294967296 := by rw [hq]; exact Nat.pow_le_pow_right (n := 2) (by omega) (by omega : 32 - s ≤ 32)
  have hbq : d32 R (k + 1) * q ≤ 4294967295 * 4294967296 := Nat.mul_le_mul (by omega) hq2
  have e1 : (d32 R (k + 1) : Int) * 2 ^ (32 - s) = ((d32 R (k + 1) * q : Nat) : Int) := by rw [hq, Int.natCast_mul, Int.natCast_pow]; rfl
  rw [IntWalk.u64_in (d32 R (k + 1) : Int) (by omega), e1, IntWalk.u64_in _ (by omega), ← or_down hp hq hpq hs h, Int.natCast_ediv, Int.natCast_emod]
  rfl
def scell (A R k t : Nat) : Value := if t < k then .int .u32 (d32 A t : Int) else .int .u32 (d32 R t : Int)
theorem scell_zero (A R t : Nat) : Lm (d32 R) t = scell A R 0 t := by unfold scell Lm; rw [if_neg (by omega)]
theorem scell_at {A R k t : Nat} (h : k ≤ t) : scell A R k t = .int .u32 (d32 R t : Int) := by unfold scell; rw [if_neg (by omega)]
theorem scell_lt {A R k t : Nat} (h : t < k) : scell A R k t = .int .u32 (d32 A t : Int) := by unfold scell; rw [if_pos h]
theorem scell_next (A R k t : Nat) : scell A R (k + 1) t = if t = k then .int .u32 (d32 A k : Int) else scell A R k t := by
  unfold scell
  by_cases e : t = k
  · subst e; rw [if_pos (by omega), if_pos rfl]
  · rw [if_neg e]
    by_cases h : t < k
    · rw [if_pos h, if_pos (by omega)]
    · rw [if_neg h, if_neg (by omega)]
end Go.Proofs.YtdcmpnjhomhhiaaGreat
