/- Decimal digits of a number of 10^P-th parts, before and behind the point. No statement is proved here. -/
import Derived.Test.YteclghokkdkolaaFrDec
set_option linter.unusedVariables false
namespace Go.Proofs.Yteclghokkdkolaa
open Go.RowKit
namespace Fr
theorem low_eq {q r k : Nat} (h : ∀ j, j < k → Dc.dg q j = Dc.dg r j) : Dc.low q k = Dc.low r k := by
  induction k with
  | zero => rfl
  | succ k ih =>
    rw [Dc.low, Dc.low, ih fun j hj => h j (by omega)]
    unfold Dc.ch
    rw [h k (by omega)]
theorem low_split (q k m : Nat) : Dc.low q (k + m) = Dc.low (q / 10 ^ m) k ++ Dc.low q m := by
  induction k with
  | zero => rw [Nat.zero_add]; rfl
  | succ k ih =>
    rw [show k + 1 + m = (k + m) + 1 by omega, Dc.low, Dc.low, List.cons_append, ih]
    congr 1
    unfold Dc.ch Dc.dg Nt.dig
    rw [Nat.div_div_eq_div_mul, ← Nat.pow_add, Nat.add_comm m k]
theorem low_mod (q m : Nat) : Dc.low q m = Dc.low (q % 10 ^ m) m := low_eq fun j hj => by
  unfold Dc.dg Nt.dig
  obtain ⟨t, rfl⟩ : ∃ t, m = j + (t + 1) := ⟨m - j - 1, by omega⟩
  rw [Nat.pow_add, Nat.mod_mul_right_div_self, Nat.pow_succ, Nat.mul_comm (10 ^ t) 10, Nat.mod_mul_right_mod]
theorem low_zeros {q k m : Nat} (h : q < 10 ^ m) : Dc.low q (k + m) = List.replicate k 48 ++ Dc.low q m := by
  rw [low_split, Nat.div_eq_of_lt h]
  congr 1
  induction k with
  | zero => rfl
  | succ k ih =>
    rw [Dc.low, ih, List.replicate_succ]
    congr 1
    unfold Dc.ch Dc.dg Nt.dig
    rw [Nat.zero_div]
    rfl
def lowb (q k : Nat) : ByteArray := ⟨(Dc.low q k).toArray⟩
theorem lowb_size (q k : Nat) : (lowb q k).size = k := by
  show (Dc.low q k).toArray.size = k
  simp [Dc.low_length]
theorem arr_append (a b : List UInt8) : (⟨a.toArray⟩ : ByteArray) ++ ⟨b.toArray⟩ = ⟨(a ++ b).toArray⟩ := by
  apply ByteArray.ext
  simp
theorem text_low {q : Nat} : Dc.text q = lowb q (Dc.text q).size ∧ q < 10 ^ (Dc.text q).size := by
  rw [Dc.text_size]
  by_cases h : q = 0
  · subst h
    refine ⟨?_, by decide⟩
    rw [if_pos rfl]
    rfl
  · rw [if_neg h]
    refine ⟨?_, Nt.lt_pow_len (by omega) q⟩
    unfold Dc.text Dc.bytes lowb
    rw [if_neg h]
theorem text_pad {q K : Nat} (h : (Dc.text q).size ≤ K) : zeros (K - (Dc.text q).size) ++ Dc.text q = lowb q K := by
  obtain ⟨h1, h2⟩ := text_low (q := q)
  obtain ⟨s, hs⟩ : ∃ s, s = (Dc.text q).size := ⟨_, rfl⟩
  rw [← hs] at h1 h2 h ⊢
  rw [h1]
  unfold zeros lowb
  rw [arr_append, ← low_zeros h2, Nat.sub_add_cancel h]
theorem lowb_split (q k m : Nat) : lowb q (k + m) = lowb (q / 10 ^ m) k ++ lowb (q % 10 ^ m) m := by
  unfold lowb
  rw [arr_append, ← low_mod, low_split]
/-- The number of digits ahead of the point. -/
theorem text_front {q P : Nat} (h : P < (Dc.text q).size) : (Dc.text (q / 10 ^ P)).size = (Dc.text q).size - P := by
  obtain ⟨_, h2⟩ := text_low (q := q)
  rw [Dc.text_size] at h h2 ⊢
  rw [Dc.text_size]
  by_cases hq : q = 0
  · subst hq
    rw [if_pos rfl] at h ⊢
    obtain rfl : P = 0 := by omega
    simp
  · rw [if_neg hq] at h h2 ⊢
    have h3 : 10 ^ (Dc.len q - 1) ≤ q := Nt.pow_len_le (by omega) q (by omega)
    have h4 : q / 10 ^ P ≠ 0 := by
      intro e
      have := (Nat.div_eq_zero_iff_lt (Nat.pow_pos (by omega))).1 e
      have h5 : 10 ^ P ≤ 10 ^ (Dc.len q - 1) := Nat.pow_le_pow_right (by omega) (by omega)
      omega
    rw [if_neg h4]
    refine Nt.len_eq (by omega) ?_ (.inr ?_)
    · apply Nat.div_lt_of_lt_mul
      rw [← Nat.pow_add, show P + (Dc.len q - P) = Dc.len q by omega]
      exact h2
    · rw [Nat.le_div_iff_mul_le (Nat.pow_pos (by omega)), ← Nat.pow_add, show Dc.len q - P - 1 + P = Dc.len q - 1 by omega]
      exact h3
/-- The number in decimal: the whole part, a point, and the rest with zeros ahead. -/
theorem dec_parts {q P : Nat} (hP : 0 < P) : dec q P = Dc.text (q / 10 ^ P) ++ ⟨#[46]⟩ ++ (zeros (P - (Dc.text (q % 10 ^ P)).size) ++ Dc.text (q % 10 ^ P)) ∧ (Dc.text (q % 10 ^ P)).size ≤ P := by
  have hr : q % 10 ^ P < 10 ^ P := Nat.mod_lt _ (Nat.pow_pos (by omega))
  have hrs : (Dc.text (q % 10 ^ P)).size ≤ P := by
    rw [Dc.text_size]
    split
    · omega
    · exact Nt.len_le (by omega) hr
  refine ⟨?_, hrs⟩
  rw [text_pad hrs]
  have hpad : pad q P = Dc.text (q / 10 ^ P) ++ lowb (q % 10 ^ P) P := by
    unfold pad
    by_cases h : (Dc.text q).size ≤ P
    · rw [if_pos h]
      obtain ⟨_, h2⟩ := text_low (q := q)
      have h3 : q / 10 ^ P = 0 := Nat.div_eq_of_lt (Nat.lt_of_lt_of_le h2 (Nat.pow_le_pow_right (by omega) h))
      rw [text_pad (by omega), Nat.add_comm P 1, lowb_split, h3]
      rfl
    · rw [if_neg h]
      obtain ⟨h1, _⟩ := text_low (q := q)
      obtain ⟨h4, _⟩ := text_low (q := q / 10 ^ P)
      have h5 := text_front (q := q) (P := P) (by omega)
      rw [h4, h5]
      rw [← lowb_split, Nat.sub_add_cancel (by omega)]
      exact h1
  have hs : (pad q P).size = (Dc.text (q / 10 ^ P)).size + P := by rw [hpad, ByteArray.size_append, lowb_size]
  unfold dec
  rw [if_neg (by omega), hs, hpad, Nat.add_sub_cancel]
  rw [ByteArray.extract_append_eq_left rfl, ByteArray.extract_append_eq_right rfl (by rw [lowb_size])]
end Fr
end Go.Proofs.Yteclghokkdkolaa
