/- The walks of fairness.choices, arrangements, RunsChance, Runs. -/
import Derived.Test.YtdcmpnjhomhhiaaGreatFaChoose
import Derived.Test.YtdcmpnjhomhhiaaGreatG8
set_option linter.unusedVariables false
namespace Go.Proofs.YtdcmpnjhomhhiaaGreat
open Go.RowKit
namespace Fa
open Fr
/-- The binomial coefficient, 0 outside. -/
def cz (n : Nat) (k : Int) : Nat := if 0 ≤ k ∧ k ≤ n then cb n k.toNat else 0
theorem cz_len {n : Nat} (hn : n ≤ 80) (k : Int) : L32 (cz n k) ≤ 17 := by
  unfold cz
  split
  · exact cb_len hn (by omega)
  · rw [L32_zero.2 rfl]; omega
theorem num_zero {B : Nat} {w' : World} {e : Ending} {D : Option Addr} {c : Nat} (he : e = .returned (.tuple #[.agg #[.slice D 0 c], .int .i64 0])) (hf : Fresh B D) : Num1 B w' e 0 := ⟨D, 0, c, he, (L32_zero.2 rfl).symm, fun h => absurd h (by omega), hf⟩
theorem prod_len {x y a b : Nat} (hx : L32 x ≤ a) (hy : L32 y ≤ b) : L32 (x * y) ≤ a + b := fit32_le (fit32_mul (fit32_mono (fit32_len x) hx) (fit32_mono (fit32_len y) hy))
theorem sum_len {x y a : Nat} (hx : L32 x ≤ a) (hy : L32 y ≤ a) : L32 (x + y) ≤ a + 1 := by
  have h1 := fit32_mono (fit32_len x) hx
  have h2 := fit32_mono (fit32_len y) hy
  refine fit32_le ?_
  unfold Fit32 at *
  rw [Nat.pow_succ]
  omega
set_option maxHeartbeats 2000000 in
theorem choose_any (w : World) {n : Nat} (hn : n ≤ 80) (k : Int) :
    Calls Tryz.prog 34 #[.int .i64 (n : Int), .int .i64 k] w fun e w' => Num1 w.heap.size w' e (cz n k) ∧ Below w.heap.size w w' := by
  by_cases h : 0 ≤ k ∧ k ≤ n
  · obtain ⟨m, rfl⟩ := Int.eq_ofNat_of_zero_le h.1
    have : cz n (m : Int) = cb n m := by unfold cz; rw [if_pos h]; rfl
    rw [this]
    exact choose_in hn (by omega)
  · have hz : cz n k = 0 := by unfold cz; rw [if_neg h]
    rw [hz]
    have BS0 := Lib.hid (box1z w (.slice none 0 0))
    have KN := known_any (w.alloc (.cells #[.slice none 0 0] TN)) (n : Int)
    rw [decide_eq_true (show (0 : Int) ≤ (n : Int) ∧ (n : Int) ≤ 80 by omega)] at KN
    have HKN := Lib.hid KN
    have h0 : L32 0 = 0 := L32_zero.2 rfl
    have hcase : k < 0 ∨ 0 ≤ k ∧ (n : Int) < k := by omega
    clear KN h hz
    rcases hcase with hc | ⟨hc1, hc2⟩
    all_goals
      go_enter Tryz.func34, Tryz.ntmps34
      go_wp2_with fail
      refine HKN.out.mono ?_
      rintro e w1 ⟨rfl, rfl⟩
      go_wp2_with fail
      refine (of_new 0 (by omega) _).mono ?_
      rintro e w2 ⟨D0, c0, rfl, _, _, hf0, hb2⟩
      rw [h0]
      obtain ⟨_, lz, kz⟩ := (BS0.out.on hb2).get (.head _)
      have HB := Lib.hid (BS0.out.on hb2).below
      have qz : w2.cell? ⟨w.heap.size, 0, none⟩ = some (.slice none 0 0) := kz.cell 0
      have fz : w2.frozen? ⟨w.heap.size, 0, none⟩ = false := kz.frozen 0
      have HF := Lib.hid (hf0.mono BS0.out.below.size)
      clear kz hb2 hf0
      go_wp2
      refine bodyPost_ret (v := .tuple #[.agg #[.slice D0 0 c0], .int .i64 0]) (by simp [results, Tryz.results34, go_sem, qz]) rfl ?_
      exact ⟨num_zero rfl HF.out, bse HB.out (Nat.le_refl _) _ _⟩
/-- The arrangements of a and b elements with r runs. -/
def arr (a b : Nat) (r : Int) : Nat := if r < 2 ∨ (a : Int) + b < r then 0 else
  cz (a - 1) (if r % 2 = 1 then r / 2 else r / 2 - 1) * cz (b - 1) (r / 2 - 1) + cz (a - 1) (r / 2 - 1) * cz (b - 1) (if r % 2 = 1 then r / 2 else r / 2 - 1)
theorem arr_len {a b : Nat} (ha : a ≤ 80) (hb : b ≤ 80) (r : Int) : L32 (arr a b r) ≤ 35 := by
  unfold arr
  split
  · rw [L32_zero.2 rfl]; omega
  · exact sum_len (a := 34) (prod_len (cz_len (by omega) _) (cz_len (by omega) _)) (prod_len (cz_len (by omega) _) (cz_len (by omega) _))
theorem cl_pos {n k : Nat} (hk : k ≤ n) : ∀ i, i ≤ k → 0 < cl n k i
  | 0, _ => by rw [cl]; omega
  | i + 1, h => by
    have ih := cl_pos hk i (by omega)
    rw [cl]
    refine Nat.div_pos ?_ (by omega)
    calc i + 1 ≤ n - k + (i + 1) := by omega
      _ = 1 * (n - k + (i + 1)) := by omega
      _ ≤ cl n k i * (n - k + (i + 1)) := Nat.mul_le_mul_right _ ih
theorem cb_pos {n k : Nat} (hk : k ≤ n) : 0 < cb n k := cl_pos hk k (Nat.le_refl k)
theorem cb_zero (n : Nat) : cb n 0 = 1 := rfl
theorem cl_self (n : Nat) : ∀ i, cl n n i = 1
  | 0 => rfl
  | i + 1 => by rw [cl, cl_self n i, Nat.sub_self, Nat.zero_add, Nat.one_mul, Nat.div_self (by omega)]
theorem cb_self (n : Nat) : cb n n = 1 := cl_self n n
/-- The numerator of the chance of r runs. -/
def rc (a b : Nat) (r : Int) : Nat := if a = 0 ∨ b = 0 then (if r = min ((a : Int) + b) 1 then 1 else 0) else arr a b r
theorem rc_len {a b : Nat} (ha : a ≤ 80) (hb : b ≤ 80) (r : Int) : L32 (rc a b r) ≤ 35 := by
  unfold rc
  split
  · split
    · exact Nat.le_trans (fit32_le (N := 1) (n := 1) (by unfold Fit32; decide)) (by omega)
    · rw [L32_zero.2 rfl]; omega
  · exact arr_len ha hb r
end Fa
end Go.Proofs.YtdcmpnjhomhhiaaGreat
