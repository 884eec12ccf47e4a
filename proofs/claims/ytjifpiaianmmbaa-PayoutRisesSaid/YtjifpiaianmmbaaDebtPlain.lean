/- Names and debts in plain Lean: debts as three functions of the index. No program in sight. -/
set_option linter.unusedVariables false
namespace Go.Proofs.Ytjifpiaianmmbaa
namespace Nm
def byte (s : ByteArray) (i : Nat) : Nat := if h : i < s.size then s[i].toNat else 0
theorem byte_at {s : ByteArray} {i : Nat} (h : i < s.size) : s[i].toNat = byte s i := by unfold byte; rw [dif_pos h]
def cOk (c : Nat) : Bool := (decide (97 ≤ c) && decide (c ≤ 122)) || (decide (48 ≤ c) && decide (c ≤ 57)) || decide (c = 45)
def allC (s : ByteArray) : Nat → Bool
  | 0 => true
  | k + 1 => allC s k && cOk (byte s k)
/-- Is it a name? -/
def name (s : ByteArray) : Bool := decide (1 ≤ s.size) && decide (s.size ≤ 24) && decide (97 ≤ byte s 0) && decide (byte s 0 ≤ 122) && allC s s.size
theorem allC_no {s : ByteArray} {k : Nat} (h : cOk (byte s k) = false) : ∀ {n : Nat}, k < n → allC s n = false := by
  intro n
  induction n with
  | zero => intro hk; omega
  | succ n ih =>
    intro hk
    simp only [allC]
    by_cases e : k = n
    · subst e; rw [h, Bool.and_false]
    · rw [ih (by omega), Bool.false_and]
theorem name_yes {s : ByteArray} (h1 : 1 ≤ s.size) (h2 : s.size ≤ 24) (h3 : 97 ≤ byte s 0) (h4 : byte s 0 ≤ 122) (h5 : allC s s.size = true) : name s = true := by
  unfold name; simp [h1, h2, h3, h4, h5]
theorem name_no {s : ByteArray} (h : s.size < 1 ∨ 24 < s.size ∨ byte s 0 < 97 ∨ 122 < byte s 0) : name s = false := by
  cases e : name s with
  | false => rfl
  | true => unfold name at e; simp only [Bool.and_eq_true, decide_eq_true_eq] at e; omega
theorem name_bad {s : ByteArray} {k : Nat} (hk : k < s.size) (h : cOk (byte s k) = false) : name s = false := by
  unfold name; rw [allC_no h hk, Bool.and_false]
theorem cOk_yes {c : Nat} (h : (97 ≤ c ∧ c ≤ 122) ∨ (48 ≤ c ∧ c ≤ 57) ∨ c = 45) : cOk c = true := by
  unfold cOk; simp only [Bool.or_eq_true, Bool.and_eq_true, decide_eq_true_eq]; omega
theorem cOk_no {c : Nat} (h : ¬ ((97 ≤ c ∧ c ≤ 122) ∨ (48 ≤ c ∧ c ≤ 57) ∨ c = 45)) : cOk c = false := by
  cases e : cOk c with
  | false => rfl
  | true => unfold cOk at e; simp only [Bool.or_eq_true, Bool.and_eq_true, decide_eq_true_eq] at e; omega
end Nm

namespace Db
section
variable (C : Nat → ByteArray) (R A : Nat → Int)
def prev (i : Nat) : Int := if i = 0 then 0 else R (i - 1)
/-- The error of debt i. -/
def derr (i : Nat) : Int := if Nm.name (C i) = false then 4 else if R i < prev R i then 2 else if A i < 1 ∨ 1000000000000 < A i then 2 else 0
/-- The first error of the first k debts. -/
def first : Nat → Int
  | 0 => 0
  | k + 1 => if first k = 0 then derr C R A k else first k
def chk (n : Nat) : Int := if 16 < n then 3 else first C R A n
end
section
variable {C : Nat → ByteArray} {R A : Nat → Int}
theorem prev_zero : prev R 0 = 0 := rfl
theorem prev_succ (k : Nat) : prev R (k + 1) = R k := by unfold prev; rw [if_neg (by omega), Nat.add_sub_cancel]
theorem first_zero_of {n : Nat} (h : first C R A n = 0) : ∀ k, k ≤ n → first C R A k = 0 := by
  induction n with
  | zero =>
    intro k hk
    obtain rfl : k = 0 := (by omega)
    rfl
  | succ n ih =>
    intro k hk
    simp only [first] at h
    by_cases e : k = n + 1
    · subst e; simp only [first]; exact h
    · split at h
      · exact ih (by assumption) k (by omega)
      · rename_i h0; exact absurd h h0
theorem derr_of {n : Nat} (h : first C R A n = 0) {k : Nat} (hk : k < n) : derr C R A k = 0 := by
  have h1 := first_zero_of h (k + 1) (by omega)
  simp only [first, first_zero_of h k (by omega), if_true] at h1
  exact h1
theorem first_stop {k : Nat} (h : first C R A k = 0) (hd : derr C R A k ≠ 0) : ∀ {n : Nat}, k < n → first C R A n = derr C R A k := by
  intro n
  induction n with
  | zero => intro hk; omega
  | succ n ih =>
    intro hk
    simp only [first]
    by_cases e : k = n
    · subst e; rw [if_pos h]
    · rw [ih (by omega), if_neg hd]
theorem first_next {k : Nat} (h : first C R A k = 0) (hd : derr C R A k = 0) : first C R A (k + 1) = 0 := by
  simp only [first]; rw [if_pos h]; exact hd
theorem derr_name {k : Nat} (h : Nm.name (C k) = false) : derr C R A k = 4 := by unfold derr; rw [if_pos h]
theorem derr_rank {k : Nat} (h : Nm.name (C k) = true) (h1 : R k < prev R k) : derr C R A k = 2 := by
  unfold derr; rw [if_neg (by rw [h]; exact Bool.noConfusion), if_pos h1]
theorem derr_amount {k : Nat} (h : Nm.name (C k) = true) (h1 : prev R k ≤ R k) (h2 : A k < 1 ∨ 1000000000000 < A k) : derr C R A k = 2 := by
  unfold derr; rw [if_neg (by rw [h]; exact Bool.noConfusion), if_neg (by omega), if_pos h2]
theorem derr_ok {k : Nat} (h : Nm.name (C k) = true) (h1 : prev R k ≤ R k) (h2 : 1 ≤ A k) (h3 : A k ≤ 1000000000000) : derr C R A k = 0 := by
  unfold derr; rw [if_neg (by rw [h]; exact Bool.noConfusion), if_neg (by omega), if_neg (by omega)]
theorem derr_gives {k : Nat} (h : derr C R A k = 0) : Nm.name (C k) = true ∧ prev R k ≤ R k ∧ 1 ≤ A k ∧ A k ≤ 1000000000000 := by
  unfold derr at h
  cases hn : Nm.name (C k) with
  | false => rw [hn] at h; simp at h
  | true =>
    rw [hn, if_neg Bool.noConfusion] at h
    split at h
    · cases h
    · split at h
      · cases h
      · exact ⟨rfl, by omega, by omega, by omega⟩
theorem chk_big {n : Nat} (h : 16 < n) : chk C R A n = 3 := by unfold chk; rw [if_pos h]
theorem chk_small {n : Nat} (h : ¬ 16 < n) : chk C R A n = first C R A n := by unfold chk; rw [if_neg h]
theorem of_chk {n : Nat} (h : chk C R A n = 0) : n ≤ 16 ∧ first C R A n = 0 := by
  unfold chk at h
  split at h
  · cases h
  · exact ⟨by omega, h⟩
theorem ok_in {n : Nat} (h : chk C R A n = 0) {k : Nat} (hk : k < n) : Nm.name (C k) = true ∧ prev R k ≤ R k ∧ 1 ≤ A k ∧ A k ≤ 1000000000000 :=
  derr_gives (derr_of (of_chk h).2 hk)
end

/-! What each debt gets of an amount, and what is left. -/
def left (A : Nat → Int) (a : Int) : Nat → Int
  | 0 => a
  | k + 1 => left A a k - min (left A a k) (A k)
def get (A : Nat → Int) (a : Int) (k : Nat) : Int := min (left A a k) (A k)
theorem left_succ (A : Nat → Int) (a : Int) (k : Nat) : left A a (k + 1) = left A a k - get A a k := rfl
theorem left_bounds {A : Nat → Int} {a : Int} {n : Nat} (h0 : 0 ≤ a) (hA : ∀ i, i < n → 1 ≤ A i) : ∀ k, k ≤ n → 0 ≤ left A a k ∧ left A a k ≤ a := by
  intro k
  induction k with
  | zero => intro _; exact ⟨h0, Int.le_refl _⟩
  | succ k ih =>
    intro hk
    have h1 := ih (by omega)
    have h2 := hA k (by omega)
    simp only [left]
    omega
theorem get_le {A : Nat → Int} {a : Int} {k : Nat} (h : left A a k ≤ A k) : get A a k = left A a k := by unfold get; omega
theorem get_gt {A : Nat → Int} {a : Int} {k : Nat} (h : A k ≤ left A a k) : get A a k = A k := by unfold get; omega

/-! What is left of the debts after payments. -/
def idx (A P : Nat → Int) : Nat → List Nat
  | 0 => []
  | k + 1 => if P k < A k then idx A P k ++ [k] else idx A P k
def sel (A P : Nat → Int) (k j : Nat) : Nat := (idx A P k).getD j 0
def cnt (A P : Nat → Int) (k : Nat) : Nat := (idx A P k).length
theorem cnt_le (A P : Nat → Int) : ∀ k, cnt A P k ≤ k := by
  intro k
  induction k with
  | zero => exact Nat.le_refl _
  | succ k ih =>
    unfold cnt at *
    simp only [idx]
    split
    · rw [List.length_append]; simp; omega
    · omega
theorem cnt_yes {A P : Nat → Int} {k : Nat} (h : P k < A k) : cnt A P (k + 1) = cnt A P k + 1 := by
  unfold cnt; simp only [idx]; rw [if_pos h, List.length_append]; rfl
theorem cnt_no {A P : Nat → Int} {k : Nat} (h : ¬ P k < A k) : cnt A P (k + 1) = cnt A P k := by
  unfold cnt; simp only [idx]; rw [if_neg h]
theorem sel_old {A P : Nat → Int} {k j : Nat} (h : j < cnt A P k) : sel A P (k + 1) j = sel A P k j := by
  unfold sel cnt at *; simp only [idx]
  split
  · simp [List.getD, List.getElem?_append_left h]
  · rfl
theorem sel_new {A P : Nat → Int} {k : Nat} (h : P k < A k) : sel A P (k + 1) (cnt A P k) = k := by
  unfold sel cnt; simp only [idx]; rw [if_pos h]; simp [List.getD]
theorem sel_no {A P : Nat → Int} {k j : Nat} (h : ¬ P k < A k) : sel A P (k + 1) j = sel A P k j := by
  unfold sel; simp only [idx]; rw [if_neg h]
/-- The error of a list of payments. -/
def payOk (A P : Nat → Int) : Nat → Bool
  | 0 => true
  | k + 1 => payOk A P k && decide (0 ≤ P k) && decide (P k ≤ A k)
def rerr (C : Nat → ByteArray) (R A : Nat → Int) (n : Nat) (P : Nat → Int) (m : Nat) : Int :=
  if chk C R A n ≠ 0 then chk C R A n else if m ≠ n then 3 else if payOk A P n = true then 0 else 2
theorem payOk_of {A P : Nat → Int} {n : Nat} (h : payOk A P n = true) : ∀ k, k < n → 0 ≤ P k ∧ P k ≤ A k := by
  induction n with
  | zero => intro k hk; omega
  | succ n ih =>
    intro k hk
    simp only [payOk, Bool.and_eq_true, decide_eq_true_eq] at h
    by_cases e : k = n
    · subst e; exact ⟨h.1.2, h.2⟩
    · exact ih h.1.1 k (by omega)
theorem payOk_mk {A P : Nat → Int} {n : Nat} (h : ∀ k, k < n → 0 ≤ P k ∧ P k ≤ A k) : payOk A P n = true := by
  induction n with
  | zero => rfl
  | succ n ih =>
    have h1 := h n (by omega)
    simp only [payOk, ih fun k hk => h k (by omega), Bool.true_and, Bool.and_eq_true, decide_eq_true_eq]
    exact h1
theorem payOk_no {A P : Nat → Int} {n k : Nat} (hk : k < n) (h : P k < 0 ∨ A k < P k) : payOk A P n = false := by
  cases e : payOk A P n with
  | false => rfl
  | true => have := payOk_of e k hk; omega
theorem rerr_chk {C : Nat → ByteArray} {R A P : Nat → Int} {n m : Nat} (h : chk C R A n ≠ 0) : rerr C R A n P m = chk C R A n := by unfold rerr; rw [if_pos h]
theorem rerr_len {C : Nat → ByteArray} {R A P : Nat → Int} {n m : Nat} (h : chk C R A n = 0) (h1 : m ≠ n) : rerr C R A n P m = 3 := by unfold rerr; rw [if_neg (by simp [h]), if_pos h1]
theorem rerr_ok {C : Nat → ByteArray} {R A P : Nat → Int} {n : Nat} (h : chk C R A n = 0) (h1 : payOk A P n = true) : rerr C R A n P n = 0 := by unfold rerr; rw [if_neg (by simp [h]), if_neg (by simp), if_pos h1]
theorem rerr_no {C : Nat → ByteArray} {R A P : Nat → Int} {n k : Nat} (h : chk C R A n = 0) (hk : k < n) (h1 : P k < 0 ∨ A k < P k) : rerr C R A n P n = 2 := by
  unfold rerr; rw [if_neg (by simp [h]), if_neg (by simp), if_neg (by rw [payOk_no hk h1]; exact Bool.noConfusion)]
end Db
end Go.Proofs.Ytjifpiaianmmbaa
