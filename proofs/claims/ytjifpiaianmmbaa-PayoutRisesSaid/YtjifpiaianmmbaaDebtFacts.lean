/- Facts on debts in plain Lean, for the laws. No program in sight. -/
import Derived.Test.YtjifpiaianmmbaaDebtPlain
set_option linter.unusedVariables false
namespace Go.Proofs.Ytjifpiaianmmbaa
namespace Db
/-- The error of Offset. -/
def oerr (C : Nat → ByteArray) (R A : Nat → Int) (n : Nat) (a : Int) : Int := if chk C R A n = 0 then (if 0 ≤ a ∧ a ≤ 1000000000000 then 0 else 2) else chk C R A n
theorem oerr_ok {C : Nat → ByteArray} {R A : Nat → Int} {n : Nat} {a : Int} (h : oerr C R A n a = 0) : chk C R A n = 0 ∧ 0 ≤ a ∧ a ≤ 1000000000000 := by
  unfold oerr at h
  by_cases hc : chk C R A n = 0
  · rw [if_pos hc] at h
    by_cases ha : 0 ≤ a ∧ a ≤ 1000000000000
    · exact ⟨hc, ha.1, ha.2⟩
    · rw [if_neg ha] at h; cases h
  · rw [if_neg hc] at h; exact absurd h hc
theorem oerr_of {C : Nat → ByteArray} {R A : Nat → Int} {n : Nat} {a : Int} (h : chk C R A n = 0) (h0 : 0 ≤ a) (h1 : a ≤ 1000000000000) : oerr C R A n a = 0 := by
  unfold oerr; rw [if_pos h, if_pos ⟨h0, h1⟩]
theorem oerr_bad {C : Nat → ByteArray} {R A : Nat → Int} {n : Nat} {a y : Int} (h : oerr C R A n a = y) (hy : y ≠ 0) : (chk C R A n = y) ∨ (chk C R A n = 0 ∧ (a < 0 ∨ 1000000000000 < a) ∧ y = 2) := by
  unfold oerr at h
  by_cases hc : chk C R A n = 0
  · rw [if_pos hc] at h
    by_cases ha : 0 ≤ a ∧ a ≤ 1000000000000
    · rw [if_pos ha] at h; exact absurd h.symm hy
    · rw [if_neg ha] at h; exact .inr ⟨hc, by omega, h.symm⟩
  · rw [if_neg hc] at h; exact .inl h
theorem get_bounds {A : Nat → Int} {a : Int} {n : Nat} (h0 : 0 ≤ a) (hA : ∀ i, i < n → 1 ≤ A i) {k : Nat} (hk : k < n) : 0 ≤ get A a k ∧ get A a k ≤ A k ∧ get A a k ≤ a := by
  have h1 := left_bounds h0 hA k (by omega)
  have h2 := hA k hk
  unfold get; omega
theorem payOk_get {A : Nat → Int} {a : Int} {n : Nat} (h0 : 0 ≤ a) (hA : ∀ i, i < n → 1 ≤ A i) : payOk A (get A a) n = true :=
  payOk_mk fun k hk => ⟨(get_bounds h0 hA hk).1, (get_bounds h0 hA hk).2.1⟩

/-! Debts are paid in order. -/
def full (A G : Nat → Int) : Nat → Bool
  | 0 => true
  | k + 1 => full A G k && (G k == A k)
def gsum (G : Nat → Int) : Nat → Int
  | 0 => 0
  | k + 1 => gsum G k + G k
theorem full_next (A G : Nat → Int) (k : Nat) : full A G (k + 1) = (full A G k && (G k == A k)) := rfl
theorem gsum_next (G : Nat → Int) (k : Nat) : gsum G (k + 1) = gsum G k + G k := rfl
theorem gsum_get (A : Nat → Int) (a : Int) : ∀ k, gsum (get A a) k = a - left A a k := by
  intro k
  induction k with
  | zero => simp [gsum, left]
  | succ k ih => rw [gsum_next, ih, left_succ]; omega
theorem left_empty {A : Nat → Int} {a : Int} {n : Nat} (h0 : 0 ≤ a) (hA : ∀ i, i < n → 1 ≤ A i) : ∀ k, k ≤ n → full A (get A a) k = false → left A a k = 0 := by
  intro k
  induction k with
  | zero => intro _ h; cases h
  | succ k ih =>
    intro hk h
    rw [full_next] at h
    have h2 := hA k (by omega)
    have h3 := left_bounds h0 hA k (by omega)
    rw [left_succ]
    cases hf : full A (get A a) k with
    | false =>
      have := ih (by omega) hf
      unfold get; omega
    | true =>
      rw [hf, Bool.true_and, beq_eq_false_iff_ne] at h
      unfold get at h ⊢; omega
theorem get_full {A : Nat → Int} {a : Int} {n : Nat} (h0 : 0 ≤ a) (hA : ∀ i, i < n → 1 ≤ A i) {k : Nat} (hk : k < n) (h : 0 < get A a k) : full A (get A a) k = true := by
  cases hf : full A (get A a) k with
  | true => rfl
  | false =>
    have h1 := left_empty h0 hA k (by omega) hf
    have h2 := hA k hk
    unfold get at h; omega
theorem left_mono {A : Nat → Int} {a b : Int} (hab : a ≤ b) : ∀ k, left A a k ≤ left A b k := by
  intro k
  induction k with
  | zero => exact hab
  | succ k ih => simp only [left]; omega
theorem get_mono {A : Nat → Int} {a b : Int} (hab : a ≤ b) (k : Nat) : get A a k ≤ get A b k := by
  have := left_mono (A := A) hab k
  unfold get; omega

/-! What is left of the debts is valid, and adds up. -/
theorem idx_eq (A P : Nat → Int) : ∀ k, idx A P k = (List.range k).filter fun i => decide (P i < A i) := by
  intro k
  induction k with
  | zero => rfl
  | succ k ih =>
    simp only [idx, ih, List.range_succ, List.filter_append]
    by_cases h : P k < A k <;> simp [h]
theorem sel_in {A P : Nat → Int} : ∀ {k j : Nat}, j < cnt A P k → sel A P k j < k ∧ P (sel A P k j) < A (sel A P k j) := by
  intro k
  induction k with
  | zero => intro j h; unfold cnt idx at h; simp at h
  | succ k ih =>
    intro j h
    by_cases hp : P k < A k
    · rw [cnt_yes hp] at h
      by_cases e : j = cnt A P k
      · subst e; rw [sel_new hp]; exact ⟨by omega, hp⟩
      · rw [sel_old (by omega)]
        have := ih (j := j) (by omega)
        exact ⟨by omega, this.2⟩
    · rw [cnt_no hp] at h
      rw [sel_no hp]
      have := ih h
      exact ⟨by omega, this.2⟩
theorem sel_inc {A P : Nat → Int} : ∀ {k j : Nat}, j + 1 < cnt A P k → sel A P k j < sel A P k (j + 1) := by
  intro k
  induction k with
  | zero => intro j h; unfold cnt idx at h; simp at h
  | succ k ih =>
    intro j h
    by_cases hp : P k < A k
    · rw [cnt_yes hp] at h
      by_cases e : j + 1 = cnt A P k
      · rw [e, sel_new hp, sel_old (by omega)]
        exact (sel_in (by omega)).1
      · rw [sel_old (by omega), sel_old (by omega)]
        exact ih (by omega)
    · rw [cnt_no hp] at h
      rw [sel_no hp, sel_no hp]
      exact ih h
theorem first_all {C : Nat → ByteArray} {R A : Nat → Int} {n : Nat} (h : ∀ k, k < n → derr C R A k = 0) : first C R A n = 0 := by
  induction n with
  | zero => rfl
  | succ n ih =>
    exact first_next (ih fun k hk => h k (by omega)) (h n (by omega))
theorem rank_inc {C : Nat → ByteArray} {R A : Nat → Int} {n : Nat} (h : chk C R A n = 0) {i : Nat} : ∀ {k : Nat}, i ≤ k → k < n → R i ≤ R k := by
  intro k
  induction k with
  | zero =>
    intro hi _
    obtain rfl : i = 0 := (by omega)
    exact Int.le_refl _
  | succ k ih =>
    intro hi hk
    by_cases e : i = k + 1
    · subst e; exact Int.le_refl _
    · have h1 := ih (by omega) (by omega)
      have h2 := (ok_in h hk).2.1
      rw [prev_succ] at h2
      omega
theorem chk_rest {C : Nat → ByteArray} {R A P : Nat → Int} {n : Nat} (h : chk C R A n = 0) (hp : payOk A P n = true) :
    chk (fun j => C (sel A P n j)) (fun j => R (sel A P n j)) (fun j => A (sel A P n j) - P (sel A P n j)) (cnt A P n) = 0 := by
  have hn := (of_chk h).1
  have hc := cnt_le A P n
  rw [chk_small (by omega)]
  refine first_all fun j hj => ?_
  have h1 := sel_in hj
  have h2 := ok_in h h1.1
  have h3 := payOk_of hp _ h1.1
  refine derr_ok h2.1 ?_ (by show 1 ≤ A _ - P _; omega) (by show A _ - P _ ≤ _; omega)
  unfold prev
  by_cases e : j = 0
  · rw [if_pos e]
    have h4 := rank_inc h (i := 0) (k := sel A P n j) (by omega) h1.1
    have h5 := (ok_in h (k := 0) (by omega)).2.1
    rw [prev_zero] at h5
    show 0 ≤ R (sel A P n j)
    omega
  · rw [if_neg e]
    have h4 := sel_inc (A := A) (P := P) (k := n) (j := j - 1) (by omega)
    rw [show j - 1 + 1 = j by omega] at h4
    exact rank_inc h (by omega) h1.1
theorem gsum_rest {n : Nat} (A P : Nat → Int) (hp : ∀ i, i < n → P i ≤ A i) : ∀ k, k ≤ n → gsum (fun j => A (sel A P k j) - P (sel A P k j)) (cnt A P k) = gsum A k - gsum P k := by
  have congr : ∀ (G H : Nat → Int) (m : Nat), (∀ j, j < m → G j = H j) → gsum G m = gsum H m := by
    intro G H m
    induction m with
    | zero => intro _; rfl
    | succ m ih => intro h; rw [gsum_next, gsum_next, ih fun j hj => h j (by omega), h m (by omega)]
  intro k
  induction k with
  | zero => intro _; rfl
  | succ k ih =>
    intro hk
    have h1 := ih (by omega)
    have h2 := hp k (by omega)
    by_cases hs : P k < A k
    · rw [cnt_yes hs, gsum_next]
      simp only [sel_new hs]
      rw [congr _ (fun j => A (sel A P k j) - P (sel A P k j)) _ fun j hj => by simp only [sel_old hj]]
      rw [h1, gsum_next, gsum_next]; omega
    · rw [cnt_no hs]
      simp only [sel_no hs]
      rw [h1, gsum_next, gsum_next]; omega
theorem gsum_nonneg {G : Nat → Int} {n : Nat} {B : Int} (h : ∀ i, i < n → 0 ≤ G i ∧ G i ≤ B) : ∀ k, k ≤ n → 0 ≤ gsum G k ∧ gsum G k ≤ B * k := by
  intro k
  induction k with
  | zero => intro _; simp [gsum]
  | succ k ih =>
    intro hk
    have h1 := ih (by omega)
    have h2 := h k (by omega)
    rw [gsum_next, show (B * ((k + 1 : Nat) : Int)) = B * (k : Int) + B by rw [show ((k + 1 : Nat) : Int) = (k : Int) + 1 by omega, Int.mul_add, Int.mul_one]]
    omega
end Db
end Go.Proofs.Ytjifpiaianmmbaa
namespace Go.Proofs.Ytjifpiaianmmbaa
namespace Db
/-! Paying twice is paying the sum. -/
/-- What is left of debt k. -/
def rem (A : Nat → Int) (x : Int) (k : Nat) : Int := A k - get A x k
theorem left_eq {A : Nat → Int} {x : Int} {n : Nat} (hx : 0 ≤ x) (hA : ∀ i, i < n → 1 ≤ A i) : ∀ k, k ≤ n → left A x k = max 0 (x - gsum A k) := by
  intro k
  induction k with
  | zero => intro _; simp [left, gsum]; omega
  | succ k ih =>
    intro hk
    have h2 := hA k (by omega)
    rw [left, ih (by omega), gsum_next]
    omega
theorem rem_eq {A : Nat → Int} {x : Int} {n : Nat} (hx : 0 ≤ x) (hA : ∀ i, i < n → 1 ≤ A i) {k : Nat} (hk : k < n) : rem A x k = min (A k) (max 0 (gsum A (k + 1) - x)) := by
  have h1 := left_eq hx hA k (by omega)
  have h2 := hA k hk
  unfold rem get
  rw [h1, gsum_next]
  omega
theorem gsum_rem {A : Nat → Int} {x : Int} {n : Nat} (hx : 0 ≤ x) (hA : ∀ i, i < n → 1 ≤ A i) : ∀ k, k ≤ n → gsum (rem A x) k = max 0 (gsum A k - x) := by
  intro k
  induction k with
  | zero => intro _; simp [gsum]; omega
  | succ k ih =>
    intro hk
    have h2 := hA k (by omega)
    rw [gsum_next, ih (by omega), rem_eq hx hA (by omega), gsum_next]
    omega
theorem rem_sel (A : Nat → Int) (x : Int) (n j : Nat) : A (sel A (get A x) n j) - get A x (sel A (get A x) n j) = rem A x (sel A (get A x) n j) := rfl
/-- The sum of what is left, over those debts that remain, up to the j-th of them. -/
theorem gsum_sel {A : Nat → Int} {x : Int} {n : Nat} (hx : 0 ≤ x) (hA : ∀ i, i < n → 1 ≤ A i) : ∀ k, k ≤ n → ∀ j, j < cnt A (get A x) k → gsum (fun j => rem A x (sel A (get A x) k j)) (j + 1) = gsum (rem A x) (sel A (get A x) k j + 1) := by
  have congr : ∀ (G H : Nat → Int) (m : Nat), (∀ j, j < m → G j = H j) → gsum G m = gsum H m := by
    intro G H m
    induction m with
    | zero => intro _; rfl
    | succ m ih => intro h; rw [gsum_next, gsum_next, ih fun j hj => h j (by omega), h m (by omega)]
  intro k
  induction k with
  | zero => intro _ j hj; unfold cnt idx at hj; simp at hj
  | succ k ih =>
    intro hk j hj
    by_cases hp : get A x k < A k
    · rw [cnt_yes hp] at hj
      by_cases e : j = cnt A (get A x) k
      · subst e
        rw [gsum_next]
        simp only [sel_new hp]
        rw [congr _ (fun j => rem A x (sel A (get A x) k j)) _ fun j hj => by simp only [sel_old hj], gsum_next]
        have h1 := gsum_rest (n := k) A (get A x) (fun i hi => (get_bounds hx hA (k := i) (by omega)).2.1) k (Nat.le_refl _)
        have h2 := gsum_rest (n := k) A (get A x) (fun i hi => (get_bounds hx hA (k := i) (by omega)).2.1)
        have h3 : gsum (fun j => rem A x (sel A (get A x) k j)) (cnt A (get A x) k) = gsum A k - gsum (get A x) k := h1
        have h4 : ∀ m, gsum (rem A x) m = gsum A m - gsum (get A x) m := by
          intro m
          induction m with
          | zero => simp [gsum]
          | succ m ihm => rw [gsum_next, gsum_next, gsum_next, ihm]; unfold rem; omega
        rw [h3, h4 k]
      · rw [congr _ (fun j => rem A x (sel A (get A x) k j)) _ fun i hi => by simp only [sel_old (show i < cnt A (get A x) k by omega)], sel_old (show j < cnt A (get A x) k by omega)]
        exact ih (by omega) j (by omega)
    · rw [cnt_no hp] at hj
      simp only [sel_no hp]
      exact ih (by omega) j hj
/-- The j-th remaining debt after x and then y is left with what x + y leaves of it. -/
theorem rem_twice {A : Nat → Int} {x y : Int} {n : Nat} (hx : 0 ≤ x) (hy : 0 ≤ y) (hA : ∀ i, i < n → 1 ≤ A i) {j : Nat} (hj : j < cnt A (get A x) n) :
    rem (fun j => rem A x (sel A (get A x) n j)) y j = rem A (x + y) (sel A (get A x) n j) := by
  have hs := sel_in hj
  have hA' : ∀ i, i < cnt A (get A x) n → 1 ≤ (fun j => rem A x (sel A (get A x) n j)) i := by
    intro i hi
    have := sel_in hi
    show 1 ≤ A _ - get A x _
    omega
  rw [rem_eq hy hA' hj, gsum_sel hx hA n (Nat.le_refl _) j hj, gsum_rem hx hA _ (by omega), rem_eq (show 0 ≤ x + y by omega) hA hs.1]
  show min (rem A x _) _ = _
  rw [rem_eq hx hA hs.1]
  omega
theorem filter_map (l : List Nat) (q : Nat → Bool) : ((List.range l.length).filter fun j => q (l.getD j 0)).map (fun j => l.getD j 0) = l.filter q := by
  induction l with
  | nil => rfl
  | cons a l ih =>
    rw [List.length_cons, List.range_succ_eq_map, List.filter_cons]
    have h : ((List.map Nat.succ (List.range l.length)).filter fun j => q ((a :: l).getD j 0)).map (fun j => (a :: l).getD j 0) = l.filter q := by
      rw [← ih, List.filter_map, List.map_map]
      rfl
    by_cases hq : q a = true
    · simp only [List.getD_cons_zero, hq, if_true, List.map_cons, h, List.filter_cons]
    · simp only [List.getD_cons_zero, hq, List.filter_cons]
      exact h
theorem getD_map (f : Nat → Nat) (l : List Nat) {j : Nat} (h : j < l.length) : (l.map f).getD j 0 = f (l.getD j 0) := by
  simp [List.getD_eq_getElem?_getD, h]
/-- Those debts that remain after x and then y are those that remain after x + y. -/
theorem idx_twice {A : Nat → Int} {x y : Int} {n : Nat} (hx : 0 ≤ x) (hy : 0 ≤ y) (hA : ∀ i, i < n → 1 ≤ A i) :
    (idx (fun j => rem A x (sel A (get A x) n j)) (get (fun j => rem A x (sel A (get A x) n j)) y) (cnt A (get A x) n)).map (fun j => sel A (get A x) n j) = idx A (get A (x + y)) n := by
  have e1 : ∀ (B : Nat → Int) (z : Int) (m : Nat), idx B (get B z) m = (List.range m).filter fun i => decide (0 < rem B z i) := by
    intro B z m
    rw [idx_eq]
    congr 1
    funext i
    unfold rem
    exact decide_eq_decide.2 (by omega)
  rw [e1, e1]
  have e2 : (List.range (cnt A (get A x) n)).filter (fun i => decide (0 < rem (fun j => rem A x (sel A (get A x) n j)) y i)) = (List.range (cnt A (get A x) n)).filter (fun i => decide (0 < rem A (x + y) (sel A (get A x) n i))) := by
    refine List.filter_congr fun i hi => ?_
    rw [rem_twice hx hy hA (List.mem_range.1 hi)]
  rw [e2]
  have e3 := filter_map (idx A (get A x) n) fun i => decide (0 < rem A (x + y) i)
  refine Eq.trans e3 ?_
  rw [e1, List.filter_filter]
  refine List.filter_congr fun i hi => ?_
  have hin := List.mem_range.1 hi
  have h1 := rem_eq hx hA hin
  have h2 := rem_eq (show 0 ≤ x + y by omega) hA hin
  have h3 := hA i hin
  rw [Bool.eq_iff_iff]
  simp only [Bool.and_eq_true, decide_eq_true_eq]
  omega
theorem cnt_twice {A : Nat → Int} {x y : Int} {n : Nat} (hx : 0 ≤ x) (hy : 0 ≤ y) (hA : ∀ i, i < n → 1 ≤ A i) :
    cnt (fun j => rem A x (sel A (get A x) n j)) (get (fun j => rem A x (sel A (get A x) n j)) y) (cnt A (get A x) n) = cnt A (get A (x + y)) n := by
  have h := congrArg List.length (idx_twice hx hy hA)
  rw [List.length_map] at h
  exact h
theorem sel_twice {A : Nat → Int} {x y : Int} {n : Nat} (hx : 0 ≤ x) (hy : 0 ≤ y) (hA : ∀ i, i < n → 1 ≤ A i) {j : Nat} (hj : j < cnt A (get A (x + y)) n) :
    sel A (get A (x + y)) n j = sel A (get A x) n (sel (fun j => rem A x (sel A (get A x) n j)) (get (fun j => rem A x (sel A (get A x) n j)) y) (cnt A (get A x) n) j) := by
  have h := idx_twice hx hy hA
  have hl : j < (idx (fun j => rem A x (sel A (get A x) n j)) (get (fun j => rem A x (sel A (get A x) n j)) y) (cnt A (get A x) n)).length := by
    have := cnt_twice hx hy hA
    unfold cnt at this hj ⊢
    omega
  show (idx A (get A (x + y)) n).getD j 0 = _
  rw [← h, getD_map _ _ hl]
  rfl
end Db
end Go.Proofs.Ytjifpiaianmmbaa
