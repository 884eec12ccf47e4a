/- Several texts in one. -/
import Derived.Test.YtdcmpnjhomhhiaaGreatG1
/- Decimal texts of natural numbers, in plain Lean. No statement is proved here. -/
set_option linter.unusedVariables false
namespace Go.Proofs.YtdcmpnjhomhhiaaGreat
namespace Dc
/-- The decimal digit j. -/
def dg (N j : Nat) : Nat := Nt.dig 10 N j
theorem dg_lt (N j : Nat) : dg N j < 10 := Nt.dig_lt (by omega) N j
def len (N : Nat) : Nat := Nt.len 10 N
def ch (N j : Nat) : UInt8 := UInt8.ofNat (48 + dg N j)
theorem ch_nat (N j : Nat) : (ch N j).toNat = 48 + dg N j := by
  unfold ch
  rw [UInt8.toNat_ofNat_of_lt' (by have := dg_lt N j; show 48 + dg N j < 256; omega)]
/-- The lowest k digits, the highest first. -/
def low (N : Nat) : Nat → List UInt8
  | 0 => []
  | k + 1 => ch N k :: low N k
theorem low_length (N : Nat) : ∀ k, (low N k).length = k
  | 0 => rfl
  | k + 1 => by rw [low, List.length_cons, low_length N k]
theorem low_get (N : Nat) : ∀ {k i : Nat}, i < k → (low N k)[i]? = some (ch N (k - 1 - i))
  | 0, _, h => absurd h (by omega)
  | k + 1, 0, _ => by rw [low]; rfl
  | k + 1, i + 1, h => by
    rw [low, List.getElem?_cons_succ, low_get N (k := k) (i := i) (by omega)]
    congr 2; omega
/-- The bytes of N in decimal. -/
def bytes (N : Nat) : List UInt8 := if N = 0 then [48] else low N (len N)
def text (N : Nat) : ByteArray := ⟨(bytes N).toArray⟩
theorem len_pos {N : Nat} (h : N ≠ 0) : 0 < len N := by
  rcases Nat.eq_zero_or_pos (len N) with e | e
  · exact absurd ((Nt.len_eq_zero (b := 10) (by omega)).1 e) h
  · exact e
theorem text_size (N : Nat) : (text N).size = if N = 0 then 1 else len N := by
  show (bytes N).toArray.size = _
  unfold bytes
  by_cases h : N = 0
  · rw [if_pos h, if_pos h]; rfl
  · rw [if_neg h, if_neg h]; simp [low_length]
/-- Byte i of a text. -/
def sb (s : ByteArray) (i : Nat) : Nat := if h : i < s.size then s[i].toNat else 0
theorem sb_at {s : ByteArray} {i : Nat} (h : i < s.size) : s[i].toNat = sb s i := by unfold sb; rw [dif_pos h]
theorem sb_list {l : List UInt8} {i : Nat} {c : UInt8} (h : l[i]? = some c) : sb ⟨l.toArray⟩ i = c.toNat := by
  have hi : i < l.length := by
    rcases Nat.lt_or_ge i l.length with h1 | h1
    · exact h1
    · rw [List.getElem?_eq_none h1] at h; cases h
  unfold sb
  rw [dif_pos (show i < (ByteArray.mk l.toArray).size from by show i < l.toArray.size; simpa using hi)]
  rw [List.getElem?_eq_getElem hi] at h
  injection h with h
  subst h
  rfl
theorem sb_text {N i : Nat} (h : N ≠ 0) (hi : i < len N) : sb (text N) i = 48 + dg N (len N - 1 - i) := by
  unfold text bytes
  rw [if_neg h, sb_list (low_get N hi), ch_nat]
theorem sb_zero : sb (text 0) 0 = 48 := by
  unfold text bytes
  rw [if_pos rfl]; rfl
/-- Two texts of the same bytes are one. -/
theorem ext {s t : ByteArray} (h : s.size = t.size) (hb : ∀ i, i < s.size → sb s i = sb t i) : s = t := by
  apply ByteArray.ext
  apply Array.ext h
  intro i h1 h2
  have h1' : i < s.size := h1
  have h2' : i < t.size := h2
  have h3 := hb i h1'
  unfold sb at h3
  rw [dif_pos h1', dif_pos h2'] at h3
  exact UInt8.toNat_inj.1 h3
/-- The value of the first k bytes. -/
def pv (s : ByteArray) : Nat → Nat
  | 0 => 0
  | k + 1 => pv s k * 10 + (sb s k - 48)
def isd (c : Nat) : Bool := decide (48 ≤ c) && decide (c ≤ 57)
def alld (s : ByteArray) : Nat → Bool
  | 0 => true
  | k + 1 => alld s k && isd (sb s k)
theorem isd_yes {c : Nat} (h0 : 48 ≤ c) (h1 : c ≤ 57) : isd c = true := by unfold isd; simp [h0, h1]
theorem isd_no {c : Nat} (h : c < 48 ∨ 57 < c) : isd c = false := by
  cases e : isd c with
  | false => rfl
  | true => unfold isd at e; simp only [Bool.and_eq_true, decide_eq_true_eq] at e; omega
theorem isd_gives {c : Nat} (h : isd c = true) : 48 ≤ c ∧ c ≤ 57 := by
  unfold isd at h; simpa only [Bool.and_eq_true, decide_eq_true_eq] using h
theorem alld_of {s : ByteArray} {n : Nat} (h : alld s n = true) : ∀ i, i < n → 48 ≤ sb s i ∧ sb s i ≤ 57 := by
  induction n with
  | zero => intro i hi; omega
  | succ n ih =>
    intro i hi
    simp only [alld, Bool.and_eq_true] at h
    by_cases e : i = n
    · subst e; exact isd_gives h.2
    · exact ih h.1 i (by omega)
theorem alld_mk {s : ByteArray} {n : Nat} (h : ∀ i, i < n → 48 ≤ sb s i ∧ sb s i ≤ 57) : alld s n = true := by
  induction n with
  | zero => rfl
  | succ n ih =>
    simp only [alld]
    rw [ih fun i hi => h i (by omega), isd_yes (h n (by omega)).1 (h n (by omega)).2]; rfl
theorem alld_no {s : ByteArray} {n k : Nat} (hk : k < n) (h : isd (sb s k) = false) : alld s n = false := by
  cases e : alld s n with
  | false => rfl
  | true =>
    have := alld_of e k hk
    rw [isd_yes this.1 this.2] at h; cases h
theorem pv_lt {s : ByteArray} {n : Nat} (h : ∀ i, i < n → 48 ≤ sb s i ∧ sb s i ≤ 57) : pv s n < 10 ^ n := by
  induction n with
  | zero => show 0 < _; exact Nat.pow_pos (by omega)
  | succ n ih =>
    have h1 := ih fun i hi => h i (by omega)
    have h2 := h n (by omega)
    simp only [pv]
    rw [Nat.pow_succ]; omega
theorem dg_step (a d : Nat) (hd : d < 10) (j : Nat) : dg (a * 10 + d) 0 = d ∧ dg (a * 10 + d) (j + 1) = dg a j := by
  unfold dg Nt.dig
  refine ⟨by rw [Nat.pow_zero, Nat.div_one]; omega, ?_⟩
  rw [Nat.pow_succ, Nat.mul_comm (10 ^ j), ← Nat.div_div_eq_div_mul, show (a * 10 + d) / 10 = a by omega]
theorem dg_pv {s : ByteArray} {n : Nat} (h : ∀ i, i < n → 48 ≤ sb s i ∧ sb s i ≤ 57) : ∀ j, j < n → dg (pv s n) j = sb s (n - 1 - j) - 48 := by
  induction n with
  | zero => intro j hj; omega
  | succ n ih =>
    intro j hj
    have h2 := h n (by omega)
    simp only [pv]
    match j, hj with
    | 0, _ => rw [(dg_step _ _ (by omega) 0).1]; congr 2
    | j + 1, hj =>
      rw [(dg_step _ _ (by omega) j).2, ih (fun i hi => h i (by omega)) j (by omega)]
      congr 2; omega
theorem text_pv {s : ByteArray} {n : Nat} (hs : s.size = n) (hn : 0 < n) (h : ∀ i, i < n → 48 ≤ sb s i ∧ sb s i ≤ 57) (h0 : n = 1 ∨ sb s 0 ≠ 48) : text (pv s n) = s := by
  subst hs
  by_cases hz : pv s s.size = 0
  · have hd := dg_pv h
    have hall : ∀ i, i < s.size → sb s i = 48 := fun i hi => by
      have h1 := hd (s.size - 1 - i) (by omega)
      rw [hz, show s.size - 1 - (s.size - 1 - i) = i by omega] at h1
      have h2 := h i hi
      have h3 : dg 0 (s.size - 1 - i) = 0 := by unfold dg Nt.dig; simp
      omega
    have h1 : s.size = 1 := by
      rcases h0 with h0 | h0
      · exact h0
      · exact absurd (hall 0 hn) h0
    rw [hz]
    refine ext (by rw [text_size, if_pos rfl, h1]) fun i hi => ?_
    rw [text_size, if_pos rfl] at hi
    obtain rfl : i = 0 := by omega
    rw [sb_zero, hall 0 hn]
  · have hl : len (pv s s.size) = s.size := by
      refine Nt.len_dig (by omega) (pv_lt h) (.inr ?_)
      have h1 := dg_pv h (s.size - 1) (by omega)
      have h2 := h 0 hn
      rw [show s.size - 1 - (s.size - 1) = 0 by omega] at h1
      show dg (pv s s.size) (s.size - 1) ≠ 0
      intro e
      rcases h0 with h0 | h0
      · refine hz ?_
        rw [h0] at h1 e ⊢
        have h3 : pv s 1 = sb s 0 - 48 := by simp [pv]
        have h4 : sb s 0 - 48 = 0 := by omega
        omega
      · omega
    refine ext (by rw [text_size, if_neg hz, hl]) fun i hi => ?_
    rw [text_size, if_neg hz] at hi
    rw [sb_text hz hi]
    rw [hl] at hi ⊢
    rw [dg_pv h _ (by omega), show s.size - 1 - (s.size - 1 - i) = i by omega]
    have := h i hi
    omega
theorem text_digits (N : Nat) : ∀ i, i < (text N).size → 48 ≤ sb (text N) i ∧ sb (text N) i ≤ 57 := fun i hi => by
  rw [text_size] at hi
  by_cases hz : N = 0
  · rw [if_pos hz] at hi
    obtain rfl : i = 0 := by omega
    subst hz
    rw [sb_zero]; omega
  · rw [if_neg hz] at hi
    rw [sb_text hz hi]
    have := dg_lt N (len N - 1 - i)
    omega
theorem text_top (N : Nat) : (text N).size = 1 ∨ sb (text N) 0 ≠ 48 := by
  by_cases hz : N = 0
  · left; rw [text_size, if_pos hz]
  · right
    rw [sb_text hz (len_pos hz)]
    have h1 : dg N (len N - 1) ≠ 0 := Nt.len_top (b := 10) (by omega) (len_pos hz)
    have e : len N - 1 - 0 = len N - 1 := by omega
    rw [e]; omega
theorem text_pos (N : Nat) : 0 < (text N).size := by
  rw [text_size]
  split
  · omega
  · rename_i h; exact len_pos h
theorem pv_text (N : Nat) : pv (text N) (text N).size = N := by
  by_cases hz : N = 0
  · subst hz
    have h1 : (text 0).size = 1 := by rw [text_size, if_pos rfl]
    rw [h1]
    show pv (text 0) 0 * 10 + (sb (text 0) 0 - 48) = 0
    rw [sb_zero]; rfl
  · have hs : (text N).size = len N := by rw [text_size, if_neg hz]
    rw [hs]
    have hk : ∀ k, k ≤ len N → pv (text N) k = N / 10 ^ (len N - k) := by
      intro k
      induction k with
      | zero =>
        intro _
        rw [Nat.sub_zero, Nat.div_eq_of_lt (show N < 10 ^ len N from Nt.lt_pow_len (b := 10) (by omega) N)]; rfl
      | succ k ih =>
        intro hk
        simp only [pv]
        rw [ih (by omega), sb_text hz (by omega)]
        have h1 := Nt.div_next 10 N (len N - (k + 1))
        rw [show len N - (k + 1) + 1 = len N - k by omega] at h1
        rw [h1, show len N - 1 - k = len N - (k + 1) by omega]
        show _ + (48 + Nt.dig 10 N _ - 48) = _
        omega
    rw [hk _ (Nat.le_refl _), Nat.sub_self, Nat.pow_zero, Nat.div_one]
theorem bigV {t T B a b c d x y z : Nat} (hB : t ^ x = B) (h : t ^ a ≤ T ^ b) (h4 : t ^ d ≤ T) (hx : x * y = a * c + d) (hz : z = b * c + 1) : B ^ y ≤ T ^ z := by
  subst hB hz
  have h2 := Nat.pow_le_pow_left h c
  rw [← Nat.pow_mul, ← Nat.pow_mul] at h2
  rw [← Nat.pow_mul, hx, Nat.pow_add, Nat.pow_succ]
  exact Nat.mul_le_mul h2 h4
theorem len_leV {N t T B a b c d x y z : Nat} (hT : T = 10) (hB : t ^ x = B) (h : t ^ a ≤ T ^ b) (h4 : t ^ d ≤ T) (hx : x * y = a * c + d) (hz : z = b * c + 1) (hN : N < B ^ y) : len N ≤ z := by
  have hb := bigV hB h h4 hx hz
  subst hT
  exact Nt.len_le (by omega) (Nat.lt_of_lt_of_le hN hb)
theorem len_le {N : Nat} (h : L32 N ≤ 64) : len N ≤ 617 :=
  len_leV (t := 2) (T := 10) (B := 4294967296) (a := 93) (b := 28) (c := 22) (d := 2) (x := 32) (y := 64) (z := 617) rfl (by decide) (by decide) (by decide) (by decide) (by decide) (fit32_of h)
/-- The error of Parse. -/
def err (s : ByteArray) : Int :=
  if 620 < s.size then 3 else if s.size = 0 ∨ (sb s 0 = 48 ∧ 1 < s.size) then 1 else if alld s s.size = false then 1 else if 64 < L32 (pv s s.size) then 9 else 0
theorem err_text {N : Nat} (h : L32 N ≤ 64) : err (text N) = 0 := by
  have h1 := len_le h
  have h2 : (text N).size ≤ 617 := by rw [text_size]; split <;> omega
  have h3 := text_pos N
  have h4 := text_top N
  unfold err
  rw [if_neg (by omega), if_neg (by omega), if_neg (by rw [alld_mk (text_digits N)]; exact Bool.noConfusion), if_neg (by rw [pv_text]; omega)]
theorem err_zero {s : ByteArray} (h : err s = 0) : s.size ≤ 620 ∧ 0 < s.size ∧ (s.size = 1 ∨ sb s 0 ≠ 48) ∧ alld s s.size = true ∧ L32 (pv s s.size) ≤ 64 := by
  unfold err at h
  by_cases h1 : 620 < s.size
  · rw [if_pos h1] at h; cases h
  rw [if_neg h1] at h
  by_cases h2 : s.size = 0 ∨ (sb s 0 = 48 ∧ 1 < s.size)
  · rw [if_pos h2] at h; cases h
  rw [if_neg h2] at h
  by_cases h3 : alld s s.size = false
  · rw [if_pos h3] at h; cases h
  rw [if_neg h3] at h
  by_cases h4 : 64 < L32 (pv s s.size)
  · rw [if_pos h4] at h; cases h
  refine ⟨by omega, by omega, by omega, by simpa using h3, by omega⟩
theorem back {s : ByteArray} (h : err s = 0) : text (pv s s.size) = s := by
  obtain ⟨_, h1, h2, h3, _⟩ := err_zero h
  exact text_pv rfl h1 (alld_of h3) h2
end Dc
end Go.Proofs.YtdcmpnjhomhhiaaGreat

/- Plain facts of the decimal output by chunks of nine digits. No statement is proved here. -/
set_option linter.unusedVariables false
namespace Go.Proofs.YtdcmpnjhomhhiaaGreat
open Go.RowKit

/-- What is left behind t chunks of nine digits. -/
def q9 (x t : Nat) : Nat := x / 10 ^ (9 * t)
theorem q9_zero (x : Nat) : q9 x 0 = x := by unfold q9; rw [Nat.mul_zero, Nat.pow_zero, Nat.div_one]
theorem q9_next (x t : Nat) : q9 x t / 1000000000 = q9 x (t + 1) := by
  unfold q9
  rw [Nat.div_div_eq_div_mul, show 9 * (t + 1) = 9 * t + 9 by omega, Nat.pow_add]
def r9 (x t i : Nat) : Nat := q9 x t % 1000000000 / 10 ^ i
theorem r9_zero (x t : Nat) : r9 x t 0 = q9 x t % 1000000000 := by unfold r9; rw [Nat.pow_zero, Nat.div_one]
theorem r9_le (x t i : Nat) : r9 x t i ≤ 999999999 := by
  unfold r9
  have := Nat.mod_lt (q9 x t) (show 0 < 1000000000 by omega)
  exact Nat.le_trans (Nat.div_le_self _ _) (by omega)
theorem r9_next (x t i : Nat) : r9 x t i / 10 = r9 x t (i + 1) := by
  unfold r9
  rw [Nat.div_div_eq_div_mul, ← Nat.pow_succ]
theorem r9_dig (x t i : Nat) (h : i < 9) : r9 x t i % 10 = Dc.dg x (9 * t + i) := by
  unfold r9 q9 Dc.dg Nt.dig
  have hd : (1000000000 : Nat) = 10 ^ i * (10 * 10 ^ (8 - i)) := by
    rw [← Nat.pow_succ', ← Nat.pow_add, show i + (8 - i).succ = 9 by omega]
  rw [Nat.pow_add, ← Nat.div_div_eq_div_mul]
  generalize x / 10 ^ (9 * t) = T
  have hm := Nat.div_add_mod T 1000000000
  generalize T % 1000000000 = u at *
  generalize T / 1000000000 = K at *
  have e : T = u + 10 ^ i * (10 * (10 ^ (8 - i) * K)) := by
    rw [← hm, hd, Nat.mul_assoc, Nat.mul_assoc, Nat.add_comm]
  rw [e, Nat.add_mul_div_left _ _ (Nat.pow_pos (by omega)), Nat.add_mul_mod_self_left]
theorem q9_pos {x t : Nat} (h : 0 < q9 x t) (h64 : L32 x ≤ 64) : t ≤ 68 := by
  have h1 : 10 ^ (9 * t) ≤ x := by
    rcases Nat.lt_or_ge x (10 ^ (9 * t)) with h2 | h2
    · unfold q9 at h; rw [Nat.div_eq_of_lt h2] at h; omega
    · exact h2
  have h2 := Dc.len_le h64
  have h3 : 9 * t < Dc.len x := by
    rcases Nat.lt_or_ge (9 * t) (Dc.len x) with h4 | h4
    · exact h4
    · have h5 : x < 10 ^ Dc.len x := Nt.lt_pow_len (b := 10) (by omega) x
      have h6 := Nat.pow_le_pow_right (n := 10) (by omega) h4
      omega
  omega
theorem q9_end {x t : Nat} (h : q9 x t = 0) : x < 10 ^ (9 * t) := by
  rcases Nat.lt_or_ge x (10 ^ (9 * t)) with h2 | h2
  · exact h2
  · unfold q9 at h
    have := Nat.div_pos h2 (Nat.pow_pos (show 0 < 10 by omega))
    omega
/-- A decimal digit as a cell. -/
def Ch (x : Nat) : Nat → Value := fun j => .int .u8 (48 + (Dc.dg x j : Int))
theorem Ch_at (x j : Nat) : Ch x j = .int .u8 (48 + (Dc.dg x j : Int)) := rfl
/-- The cells while the first k digits are turned round: i from both ends are done. -/
def rcv (x k i : Nat) (F : Nat → Value) (t : Nat) : Value := if t < i then Ch x (k - 1 - t) else if t + i < k then Ch x t else if t < k then Ch x (k - 1 - t) else F t
theorem rcv_zero (x k : Nat) (F : Nat → Value) (hF : ∀ j, j < k → F j = Ch x j) (t : Nat) : rcv x k 0 F t = F t := by
  unfold rcv
  rw [if_neg (by omega)]
  by_cases h : t < k
  · rw [if_pos (by omega), hF t h]
  · rw [if_neg (by omega), if_neg h]
theorem rcv_mid {x k i : Nat} {F : Nat → Value} {t : Nat} (h1 : i ≤ t) (h2 : t + i < k) : rcv x k i F t = Ch x t := by
  unfold rcv; rw [if_neg (by omega), if_pos h2]
theorem rcv_next {x k i j : Nat} (F : Nat → Value) (hij : i + j + 1 = k) (hlt : i < j) (t : Nat) : rcv x k (i + 1) F t = if t = j then Ch x i else if t = i then Ch x j else rcv x k i F t := by
  unfold rcv
  by_cases e1 : t = j
  · subst e1
    rw [if_neg (by omega), if_neg (by omega), if_pos (by omega), if_pos rfl]
    congr 1; omega
  · rw [if_neg e1]
    by_cases e2 : t = i
    · subst e2
      rw [if_pos (by omega), if_pos rfl]
      congr 1; omega
    · rw [if_neg e2]
      by_cases h1 : t < i
      · rw [if_pos (by omega), if_pos h1]
      · rw [if_neg (show ¬ t < i + 1 by omega), if_neg h1]
        by_cases h2 : t + i < k
        · rw [if_pos (show t + (i + 1) < k by omega), if_pos h2]
        · rw [if_neg (show ¬ t + (i + 1) < k by omega), if_neg h2]
theorem rcv_end {x k i : Nat} {F : Nat → Value} (h : k ≤ 2 * i + 1) (hi : 2 * i ≤ k) {t : Nat} (ht : t < k) : rcv x k i F t = Ch x (k - 1 - t) := by
  unfold rcv
  by_cases h1 : t < i
  · rw [if_pos h1]
  · rw [if_neg h1]
    by_cases h2 : t + i < k
    · rw [if_pos h2]; congr 1; omega
    · rw [if_neg h2, if_pos ht]
theorem dig_down {x k : Nat} (h : x < 10 ^ k) (hk : 0 < k) (hd : Dc.dg x (k - 1) = 0) : x < 10 ^ (k - 1) := by
  obtain ⟨j, rfl⟩ : ∃ j, k = j + 1 := ⟨k - 1, by omega⟩
  rw [Nat.add_sub_cancel] at hd ⊢
  have h1 := Nt.mod_next 10 x j
  rw [Nat.mod_eq_of_lt h] at h1
  unfold Dc.dg at hd
  rw [hd, Nat.mul_zero, Nat.add_zero] at h1
  rw [h1]; exact Nat.mod_lt _ (Nat.pow_pos (by omega))
theorem len_of {x k : Nat} (hx : x ≠ 0) (h : x < 10 ^ k) (hk : 1 ≤ k) (hd : k = 1 ∨ Dc.dg x (k - 1) ≠ 0) : Dc.len x = k := by
  refine Nt.len_dig (by omega) h (.inr ?_)
  rcases hd with rfl | hd
  · show x / 10 ^ 0 % 10 ≠ 0
    rw [Nat.pow_zero, Nat.div_one]
    rw [Nat.pow_one] at h
    omega
  · exact hd
theorem text_bytes {x k i : Nat} (hx : x ≠ 0) (hl : Dc.len x = k) (hi : i < (Dc.text x).size) : ((Dc.text x)[i].toNat : Int) = 48 + (Dc.dg x (k - 1 - i) : Int) := by
  rw [Dc.sb_at hi]
  rw [Dc.text_size, if_neg hx] at hi
  rw [Dc.sb_text hx hi, hl]; omega
end Go.Proofs.YtdcmpnjhomhhiaaGreat
