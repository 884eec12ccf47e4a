/- The walks of math/bits.LeadingZeros32 and of nat.shifted. -/
import Derived.Test.YteclghokkdkolaaNatSmall
import Derived.Test.YteclghokkdkolaaBits
import Derived.Lib.ItoaNum
set_option linter.unusedVariables false
namespace Go.Proofs.Yteclghokkdkolaa
open Go.RowKit

/-- The carry into limb k of f * y. -/
def f32 (f y k : Nat) : Nat := Nt.fcar 4294967296 f y k
theorem f32_zero (f y : Nat) : f32 f y 0 = 0 := Nt.fcar_zero _ f y
theorem f32_step (f y k : Nat) : f32 f y k + f * d32 y k = 4294967296 * f32 f y (k + 1) + d32 (f * y) k := Nt.fcar_step (by omega) f y k
theorem f32_lt {f : Nat} (hf : 0 < f) (y k : Nat) : f32 f y k < f := by
  unfold f32 Nt.fcar
  have h1 := Nat.mod_lt y (Nat.pow_pos (n := k) (show 0 < 4294967296 by omega))
  refine (Nat.div_lt_iff_lt_mul (Nat.pow_pos (by omega))).2 ?_
  exact Nat.mul_lt_mul_of_pos_left h1 hf
theorem f32_end {f y n : Nat} (hy : Fit32 y n) (hf : f ≤ 4294967296) : f32 f y n = d32 (f * y) n ∧ Fit32 (f * y) (n + 1) := by
  have h0 : 0 < 4294967296 ^ n := Nat.pow_pos (by omega)
  have h1 : f * y < 4294967296 ^ (n + 1) := by
    rw [Nat.pow_succ, Nat.mul_comm]
    exact Nat.lt_of_le_of_lt (Nat.mul_le_mul_left _ hf) (Nat.mul_lt_mul_of_pos_right hy (by omega))
  refine ⟨?_, h1⟩
  unfold f32 Nt.fcar d32 Nt.dig
  have h2 : y % 4294967296 ^ n = y := Nat.mod_eq_of_lt hy
  rw [h2, Nat.mod_eq_of_lt]
  rw [Nat.pow_succ] at h1
  exact (Nat.div_lt_iff_lt_mul h0).2 (by rw [Nat.mul_comm 4294967296]; exact h1)

/-- The carry or a limb that is shifted. -/
theorem or_shift {c d s : Nat} (hs : s ≤ 31) (hc : c < 2 ^ s) (hd : d < 4294967296) : bits .or .u64 (c : Int) (IntKind.u64.wrap ((d : Int) * 2 ^ s)) = ((c + 2 ^ s * d : Nat) : Int) := by
  have hp1 : 2 ^ s ≤ 2147483648 := Nat.pow_le_pow_right (n := 2) (by omega) hs
  have h1 : d * 2 ^ s ≤ 4294967295 * 2147483648 := Nat.mul_le_mul (by omega) hp1
  have h2 : ((d : Int) * 2 ^ s) = ((d * 2 ^ s : Nat) : Int) := by rw [Int.natCast_mul, Int.natCast_pow]; rfl
  rw [h2, IntWalk.u64_in _ (by omega), Go.bits_or_u64_nat c (d * 2 ^ s) (by omega) (by omega), Nat.or_comm, Nat.mul_comm d, ← Nat.two_pow_add_eq_or_of_lt hc, Nat.add_comm]

set_option maxHeartbeats 1000000 in
set_option maxRecDepth 100000 in
theorem shifted_any {D : Option Addr} {n c x s : Nat} {w : World} (hn : n ≤ 1000) (hs : s ≤ 31) (hxn : Fit32 x n) (hx : Cells w D n (Lm (d32 x))) :
    Calls Try.prog 89 #[.slice D n c, .int .u64 (s : Int)] w fun e w' => ∃ g, e = .returned (.slice (some ⟨g, 0, none⟩) (n + 1) (n + 1)) ∧ w'.ownsRow w.heap.size 43 1 (.slice (some ⟨g, 0, none⟩) (n + 1) (n + 1)) (n + 1) (row ((n + 1) * 1) (Lm (d32 (2 ^ s * x)))) ∧ Below w.heap.size w w' := by
  obtain ⟨i0, hi, hz0, hz1, hz2⟩ := info_parts Try.infoU
  have HX := Lib.hid hxn
  clear hxn
  have HB := Lib.hid (Below.refl w.heap.size w)
  obtain ⟨p, hp⟩ : ∃ p : Nat, p = 2 ^ s := ⟨_, rfl⟩
  have hp1 : p ≤ 2147483648 := by rw [hp]; exact Nat.pow_le_pow_right (n := 2) (by omega) hs
  have hp0 : 0 < p := by rw [hp]; exact Nat.pow_pos (by omega)
  rw [← hp]
  have HP := Lib.hid hp
  clear hp
  go_enter Try.func89, Try.ntmps89
  go_wp2_with (at_make; refine wpList_make_full _ rfl _ _ 22 rfl w.heap.size 43 i0 (.int .u32 0) 1 Try.underlying22 hi hz0 hz1 _ _ _ _ (n + 1) rfl rfl ?c1 ?c2 ?c3 ?c4 ?c5 ?_)
  case c1 => omega
  case c2 => omega
  case c3 => rw [hz2]; omega
  case c4 => unfold maxLen; omega
  case c5 => exact Nat.le_refl _
  intro w4 hown1 hgr1
  have HB4 : Hid (Below w.heap.size w w4) := ⟨hgr1.os, hgr1.tape, hgr1.output, hgr1.size, fun k hk => hgr1.block k hk (by simp)⟩
  have hgl := (hown1.lt _ rfl).2
  have HO := Lib.hid (own_congr (F' := Lm (upto (d32 (p * x)) 0)) (made_own (z := .int .u32 0) hown1) fun j hj => by unfold Lm upto; rw [if_neg (by omega)]; rfl)
  clear hown1 hgr1
  obtain ⟨g, hg⟩ : ∃ g, g = w.heap.size := ⟨_, rfl⟩
  rw [← hg] at HO hgl ⊢
  have hgs : w.heap.size ≤ g := by omega
  have HG := Lib.hid hg
  clear hg
  go_wp2
  go_loopw [6, 15] (fun cr i wr => ∃ k : Nat, k ≤ n ∧ i = .int .i64 k ∧ cr = .int .u64 (f32 p x k : Int) ∧ Hid (wr.ownsRow g 43 1 (.slice (some ⟨g, 0, none⟩) (n + 1) (n + 1)) (n + 1) (row ((n + 1) * 1) (Lm (upto (d32 (p * x)) k)))) ∧ Hid (Below w.heap.size w wr) ∧ g < wr.heap.size) (fun _ i _ => n - (intOf i).toNat)
  case atStart => exact ⟨0, Nat.zero_le _, rfl, by rw [f32_zero]; rfl, HO, HB4, hgl⟩
  case round =>
    obtain ⟨k, hk, rfl, rfl, HO1, HB5, hgl5⟩ := hrel
    have hst := f32_step p x k
    have hfl := f32_lt hp0 x k
    have hfl2 := f32_lt hp0 x (k + 1)
    have hd := d32_lt x k
    have HST := Lib.hid hst
    have hd3 := d32_lt (p * x) k
    clear hst
    by_cases hkn : k < n
    · obtain ⟨b1, o1, rfl, hlt1, hc1⟩ := (hx.below HB5.out).lm hkn
      obtain ⟨hog, hof⟩ := own_at HO1.out (show k < n + 1 by omega)
      have hog2 : wr.cell? ⟨g, k, none⟩ = some (.int .u32 ((0 : Nat) : Int)) := by rw [hog]; unfold Lm; rw [upto_at]
      have HU := Lib.hid fun j => upto_next (d32 (p * x)) k j
      clear hog
      have hs0 : (0 : Int) ≤ (s : Int) := by omega
      have hs1 : (s : Int) ≤ 31 := by omega
      have horl := Lib.hid (or_shift (c := f32 p x k) (d := d32 x k) hs (by rw [← HP.out]; exact hfl) hd)
      go_wp2
      go_roundw
      case rel =>
        rw [horl.out, ← HP.out]
        have e1 : (((f32 p x k + p * d32 x k : Nat) : Int)) % 4294967296 = (d32 (p * x) k : Int) := by have := HST.out; omega
        have e2 : (((f32 p x k + p * d32 x k : Nat) : Int)) / 4294967296 = (f32 p x (k + 1) : Int) := by have := HST.out; omega
        rw [e1, e2]
        have hp := own_put (k := k) (F' := Lm (upto (d32 (p * x)) (k + 1))) HO1.out fun j _ => HU.out j
        exact ⟨k + 1, by omega, by go_num, rfl, hp.1, HB5.out.trans ((only_below hp.2 (by omega)).mono hgs), by simpa using hgl5⟩
      case measure => simp [intOf]; omega
    · obtain rfl : k = n := by omega
      obtain ⟨hog, hof⟩ := own_at HO1.out (show k < k + 1 by omega)
      have hog2 : wr.cell? ⟨g, k, none⟩ = some (.int .u32 ((0 : Nat) : Int)) := by rw [hog]; unfold Lm; rw [upto_at]
      have htop := Lib.hid (f32_end (f := p) HX.out (by omega))
      have hp := own_put (k := k) (u := .int .u32 (f32 p x k : Int)) (F' := Lm (upto (d32 (p * x)) (k + 1))) HO1.out fun j _ => by rw [upto_next, htop.out.1]
      have HP2 := Lib.hid (own_congr (F' := Lm (d32 (p * x))) hp.1 fun j hj => by unfold Lm; rw [upto_lt hj])
      have HB6 := Lib.hid (HB5.out.trans ((only_below hp.2 (by omega)).mono hgs))
      clear hog hp
      go_wp2
      go_ret
      exact ⟨g, rfl, by rw [← HG.out]; exact HP2.out, HB6.out⟩
theorem f32_fits {s y n : Nat} (hy : Fit32 y n) (hs : s ≤ 31) : Fit32 (2 ^ s * y) (n + 1) :=
  (f32_end hy (by have : 2 ^ s ≤ 2147483648 := Nat.pow_le_pow_right (n := 2) (by omega) hs; omega)).2

theorem bitLen_spec (x : Nat) (hx : x < 4294967296) (h0 : 0 < x) : x < 2 ^ Lib.bitLen x ∧ 2 ^ Lib.bitLen x ≤ 2 * x := by
  obtain ⟨h1, h2, h3⟩ := Lib.bitLenAux_bounds 64 x (by omega) (by omega)
  refine ⟨h3, ?_⟩
  have h4 : 2 ^ Lib.bitLenAux 64 x = 2 ^ (Lib.bitLenAux 64 x - 1) * 2 := by rw [← Nat.pow_succ, show (Lib.bitLenAux 64 x - 1).succ = Lib.bitLenAux 64 x by omega]
  show 2 ^ Lib.bitLenAux 64 x ≤ 2 * x
  omega
theorem lz_any (x : Nat) (h0 : 0 < x) (hx : x < 4294967296) (w : World) :
    Calls Try.prog 88 #[.int .u32 (x : Int)] w fun e w' => ∃ s : Nat, e = .returned (.int .i64 (s : Int)) ∧ s ≤ 31 ∧ 2 ^ s * x < 4294967296 ∧ 2147483648 ≤ 2 ^ s * x ∧ w = w' := by
  refine (bits_LeadingZeros32 (x : Int) w (by omega) (by omega)).mono ?_
  rintro e w1 ⟨rfl, rfl⟩
  obtain ⟨h1, h2⟩ := bitLen_spec x hx h0
  rw [Int.toNat_natCast]
  have hl : Lib.bitLen x ≤ 32 := by
    rcases Nat.lt_or_ge 32 (Lib.bitLen x) with h | h
    · have : 2 ^ 33 ≤ 2 ^ Lib.bitLen x := Nat.pow_le_pow_right (by omega) h
      omega
    · exact h
  have hl0 : 1 ≤ Lib.bitLen x := by
    rcases Nat.eq_zero_or_pos (Lib.bitLen x) with h | h
    · rw [h] at h1; simp at h1; omega
    · exact h
  refine ⟨32 - Lib.bitLen x, by rw [show (32 - (Lib.bitLen x : Int)) = ((32 - Lib.bitLen x : Nat) : Int) by omega], by omega, ?_, ?_, rfl⟩
  · have : 2 ^ (32 - Lib.bitLen x) * 2 ^ Lib.bitLen x = 4294967296 := by rw [← Nat.pow_add, show 32 - Lib.bitLen x + Lib.bitLen x = 32 by omega]
    rw [← this]
    exact Nat.mul_lt_mul_of_pos_left h1 (Nat.pow_pos (by omega))
  · have h3 : 2 ^ (32 - Lib.bitLen x) * 2 ^ Lib.bitLen x = 4294967296 := by rw [← Nat.pow_add, show 32 - Lib.bitLen x + Lib.bitLen x = 32 by omega]
    have h4 := Nat.mul_le_mul_left (2 ^ (32 - Lib.bitLen x)) h2
    rw [h3, Nat.mul_left_comm] at h4
    omega
end Go.Proofs.Yteclghokkdkolaa
