/- The tax in plain Lean: brackets as two functions of the index. No program in sight. -/
set_option linter.unusedVariables false
namespace Go.Proofs.Ytjifpiaianmmbaa
namespace Tx

/-- Is bracket i as the chapter asks? -/
def ok (F R : Nat → Int) (i : Nat) : Bool :=
  decide (0 ≤ F i) && decide (F i ≤ 1000000000000) && (decide (i = 0) || decide (F (i - 1) < F i)) && decide (0 ≤ R i) && decide (R i ≤ 10000)
def allOk (F R : Nat → Int) : Nat → Bool
  | 0 => true
  | k + 1 => allOk F R k && ok F R k
/-- The error of a list of n brackets. -/
def chk (n : Nat) (F R : Nat → Int) : Int := if 8 < n then 3 else if allOk F R n = true then 0 else 2

theorem allOk_of {F R : Nat → Int} {n : Nat} (h : allOk F R n = true) : ∀ k, k ≤ n → allOk F R k = true := by
  induction n with
  | zero =>
    intro k hk
    obtain rfl : k = 0 := (by omega)
    rfl
  | succ n ih =>
    intro k hk
    by_cases e : k = n + 1
    · subst e; exact h
    · simp only [allOk, Bool.and_eq_true] at h
      exact ih h.1 k (by omega)
theorem ok_of {F R : Nat → Int} {n : Nat} (h : allOk F R n = true) {k : Nat} (hk : k < n) : ok F R k = true := by
  have := allOk_of h (k + 1) (by omega)
  simp only [allOk, Bool.and_eq_true] at this
  exact this.2
theorem not_all {F R : Nat → Int} {n k : Nat} (hk : k < n) (h : ok F R k = false) : allOk F R n = false := by
  cases e : allOk F R n with
  | false => rfl
  | true => rw [ok_of e hk] at h; cases h
theorem chk_big {n : Nat} {F R : Nat → Int} (h : 8 < n) : chk n F R = 3 := by unfold chk; rw [if_pos h]
theorem chk_yes {n : Nat} {F R : Nat → Int} (h : ¬ 8 < n) (h1 : allOk F R n = true) : chk n F R = 0 := by unfold chk; rw [if_neg h, if_pos h1]
theorem chk_no {n k : Nat} {F R : Nat → Int} (h : ¬ 8 < n) (hk : k < n) (h1 : ok F R k = false) : chk n F R = 2 := by
  unfold chk; rw [if_neg h, if_neg (by rw [not_all hk h1]; exact Bool.false_ne_true)]
theorem of_chk {n : Nat} {F R : Nat → Int} (h : chk n F R = 0) : n ≤ 8 ∧ allOk F R n = true := by
  unfold chk at h
  split at h
  · cases h
  · split at h
    · exact ⟨by omega, by assumption⟩
    · cases h
theorem ok_mk {F R : Nat → Int} {k : Nat} (h0 : 0 ≤ F k) (h1 : F k ≤ 1000000000000) (h2 : k = 0 ∨ F (k - 1) < F k) (h3 : 0 ≤ R k) (h4 : R k ≤ 10000) : ok F R k = true := by
  unfold ok; simp only [Bool.and_eq_true, Bool.or_eq_true, decide_eq_true_eq]; exact ⟨⟨⟨⟨h0, h1⟩, h2⟩, h3⟩, h4⟩
theorem ok_no {F R : Nat → Int} {k : Nat} (h : F k < 0 ∨ 1000000000000 < F k ∨ (0 < k ∧ F k ≤ F (k - 1)) ∨ R k < 0 ∨ 10000 < R k) : ok F R k = false := by
  cases e : ok F R k with
  | false => rfl
  | true =>
    unfold ok at e; simp only [Bool.and_eq_true, Bool.or_eq_true, decide_eq_true_eq] at e
    omega
theorem ok_gives {F R : Nat → Int} {k : Nat} (e : ok F R k = true) : 0 ≤ F k ∧ F k ≤ 1000000000000 ∧ (k = 0 ∨ F (k - 1) < F k) ∧ 0 ≤ R k ∧ R k ≤ 10000 := by
  unfold ok at e; simp only [Bool.and_eq_true, Bool.or_eq_true, decide_eq_true_eq] at e
  omega

/-- What is wrong with a bracket whose From fits. -/
theorem no_split {F R : Nat → Int} {k : Nat} (e : ok F R k = false) (h0 : 0 ≤ F k) (h1 : F k ≤ 1000000000000) : (k ≠ 0 ∧ F k ≤ F (k - 1)) ∨ ((k = 0 ∨ F (k - 1) < F k) ∧ (R k < 0 ∨ 10000 < R k)) := by
  by_cases hk : k = 0
  · right
    refine ⟨.inl hk, ?_⟩
    by_cases a : 0 ≤ R k
    · by_cases b : R k ≤ 10000
      · rw [ok_mk h0 h1 (.inl hk) a b] at e; cases e
      · right; omega
    · left; omega
  · by_cases hf : F k ≤ F (k - 1)
    · exact .inl ⟨hk, hf⟩
    · right
      refine ⟨.inr (by omega), ?_⟩
      by_cases a : 0 ≤ R k
      · by_cases b : R k ≤ 10000
        · rw [ok_mk h0 h1 (.inr (by omega)) a b] at e; cases e
        · right; omega
      · left; omega
/-- What bracket i of n costs at the amount a. -/
def top (n : Nat) (F : Nat → Int) (a : Int) (i : Nat) : Int := if i + 1 < n then min a (F (i + 1)) else a
def part (n : Nat) (F R : Nat → Int) (a : Int) (i : Nat) : Int := if F i < a then (top n F a i - F i) * R i / 10000 else 0
def sum (n : Nat) (F R : Nat → Int) (a : Int) : Nat → Int
  | 0 => 0
  | k + 1 => sum n F R a k + part n F R a k
def err (n : Nat) (F R : Nat → Int) (a : Int) : Int := if chk n F R = 0 then (if 0 ≤ a ∧ a ≤ 1000000000000 then 0 else 2) else chk n F R
def val (n : Nat) (F R : Nat → Int) (a : Int) : Int := if err n F R a = 0 then sum n F R a n else 0

/-! The laws. -/
theorem inc {F R : Nat → Int} {n : Nat} (h : allOk F R n = true) {i : Nat} : ∀ {k : Nat}, i ≤ k → k < n → F i ≤ F k := by
  intro k
  induction k with
  | zero =>
    intro hi _
    obtain rfl : i = 0 := (by omega)
    exact Int.le_refl _
  | succ k ih =>
    intro hi hk
    by_cases e : i = k + 1
    · subst e; exact Int.le_refl _
    · have h1 := ih (by omega) (by omega)
      have h2 := (ok_gives (ok_of h hk)).2.2.1
      simp only [Nat.add_sub_cancel] at h2
      omega
theorem next {F R : Nat → Int} {n : Nat} (h : allOk F R n = true) {i : Nat} (hk : i + 1 < n) : F i < F (i + 1) := by
  have h2 := (ok_gives (ok_of h hk)).2.2.1
  simp only [Nat.add_sub_cancel] at h2
  omega
theorem floor_le {x y r : Int} (hx : 0 ≤ x) (hxy : x ≤ y) (hr : 0 ≤ r) (hr1 : r ≤ 10000) : x * r / 10000 ≤ y * r / 10000 ∧ y * r / 10000 - x * r / 10000 ≤ y - x := by
  have h1 : x * r ≤ y * r := Int.mul_le_mul_of_nonneg_right hxy hr
  have h2 : (y - x) * r ≤ (y - x) * 10000 := Int.mul_le_mul_of_nonneg_left hr1 (by omega)
  have h3 : y * r = x * r + (y - x) * r := by rw [← Int.add_mul]; congr 1; omega
  generalize x * r = A at *
  generalize y * r = B at *
  generalize (y - x) * r = C at *
  omega
def width (n : Nat) (F : Nat → Int) (a : Int) (i : Nat) : Int := if F i < a then top n F a i - F i else 0
theorem part_eq (n : Nat) (F R : Nat → Int) (a : Int) (i : Nat) : part n F R a i = width n F a i * R i / 10000 := by
  unfold part width
  split
  · rfl
  · simp
def wsum (n : Nat) (F : Nat → Int) (a : Int) : Nat → Int
  | 0 => 0
  | k + 1 => wsum n F a k + width n F a k
theorem width_mono {n : Nat} {F R : Nat → Int} (h : allOk F R n = true) {a b : Int} (hab : a ≤ b) {i : Nat} (hi : i < n) : 0 ≤ width n F a i ∧ width n F a i ≤ width n F b i := by
  unfold width top
  by_cases e : i + 1 < n
  · have := next h e
    rw [if_pos e, if_pos e]
    split <;> split <;> omega
  · rw [if_neg e, if_neg e]
    split <;> split <;> omega
theorem sum_mono {n : Nat} {F R : Nat → Int} (h : allOk F R n = true) {a b : Int} (hab : a ≤ b) : ∀ k, k ≤ n → 0 ≤ sum n F R b k - sum n F R a k ∧ sum n F R b k - sum n F R a k ≤ wsum n F b k - wsum n F a k := by
  intro k
  induction k with
  | zero => intro _; simp [sum, wsum]
  | succ k ih =>
    intro hk
    have h1 := ih (by omega)
    have h2 := width_mono h hab (i := k) (by omega)
    have h3 := ok_gives (ok_of h (k := k) (by omega))
    have h4 := floor_le h2.1 h2.2 h3.2.2.2.1 h3.2.2.2.2
    simp only [sum, wsum, part_eq]
    omega
theorem wsum_eq {n : Nat} {F R : Nat → Int} (h : allOk F R n = true) (a : Int) (hn : 0 < n) : ∀ k, k ≤ n → wsum n F a k = if k < n then max 0 (min a (F k) - F 0) else max 0 (a - F 0) := by
  intro k
  induction k with
  | zero => intro _; rw [if_pos hn]; simp only [wsum]; omega
  | succ k ih =>
    intro hk
    have h1 := ih (by omega)
    rw [if_pos (by omega)] at h1
    have h0 := inc h (i := 0) (k := k) (by omega) (by omega)
    simp only [wsum, h1, width, top]
    by_cases e : k + 1 < n
    · have h2 := next h e
      rw [if_pos e, if_pos e]
      split <;> omega
    · rw [if_neg e, if_neg e]
      split <;> omega
/-- Of two amounts: the sums differ by nothing, or by up to what the amounts differ. -/
theorem sum_step {n : Nat} {F R : Nat → Int} (h : allOk F R n = true) {a b : Int} (hab : a ≤ b) : 0 ≤ sum n F R b n - sum n F R a n ∧ sum n F R b n - sum n F R a n ≤ b - a := by
  have h1 := sum_mono h hab n (Nat.le_refl _)
  by_cases hn : n = 0
  · subst hn; simp [sum]; omega
  · have h2 := wsum_eq h a (by omega) n (Nat.le_refl _)
    have h3 := wsum_eq h b (by omega) n (Nat.le_refl _)
    rw [if_neg (by omega)] at h2 h3
    omega
/-- Nothing is taxed up to the first From. -/
theorem sum_zero {n : Nat} {F R : Nat → Int} {a : Int} (h : ∀ i, i < n → a ≤ F i) : ∀ k, k ≤ n → sum n F R a k = 0 := by
  intro k
  induction k with
  | zero => intro _; rfl
  | succ k ih =>
    intro hk
    have h1 := h k (by omega)
    simp only [sum, ih (by omega), part]
    rw [if_neg (by omega)]; rfl
theorem sum_low {n : Nat} {F R : Nat → Int} (h : allOk F R n = true) {a : Int} (ha : 0 < n → a ≤ F 0) : sum n F R a n = 0 :=
  sum_zero (fun i hi => Int.le_trans (ha (by omega)) (inc h (Nat.zero_le _) hi)) n (Nat.le_refl _)
theorem sum_bounds {n : Nat} {F R : Nat → Int} (h : allOk F R n = true) {a : Int} (ha : 0 ≤ a) : 0 ≤ sum n F R a n ∧ sum n F R a n ≤ a := by
  have h1 := sum_step h ha
  have h2 := sum_low h (a := 0) fun hn => (ok_gives (ok_of h hn)).1
  omega
theorem sum_rate0 {n : Nat} {F R : Nat → Int} {a : Int} (h : ∀ i, i < n → R i = 0) : ∀ k, k ≤ n → sum n F R a k = 0 := by
  intro k
  induction k with
  | zero => intro _; rfl
  | succ k ih =>
    intro hk
    simp only [sum, ih (by omega), part_eq, h k (by omega)]
    simp
/-- The brackets from k on do not matter where the amount is not above their From. -/
theorem sum_cut {n k : Nat} {F R : Nat → Int} {a : Int} (h : allOk F R n = true) (hk : k < n) (ha : a ≤ F k) : sum n F R a n = sum k F R a k := by
  have hlow : ∀ j, j ≤ k → sum n F R a j = sum k F R a j := by
    intro j
    induction j with
    | zero => intro _; rfl
    | succ j ih =>
      intro hj
      simp only [sum, ih (by omega), part, top]
      by_cases e : j + 1 < k
      · rw [if_pos (show j + 1 < n by omega), if_pos e]
      · obtain rfl : k = j + 1 := by omega
        rw [if_pos hk, if_neg e, show min a (F (j + 1)) = a by omega]
  have hhigh : ∀ j, j ≤ n - k → sum n F R a (k + j) = sum n F R a k := by
    intro j
    induction j with
    | zero => intro _; rfl
    | succ j ih =>
      intro hj
      have h1 := inc h (i := k) (k := k + j) (by omega) (by omega)
      rw [← Nat.add_assoc]
      simp only [sum, ih (by omega), part]
      rw [if_neg (by omega)]; simp
  have := hhigh (n - k) (Nat.le_refl _)
  rw [show k + (n - k) = n by omega] at this
  rw [this, hlow k (Nat.le_refl _)]
/-- What is above the last From is taxed by its rate. -/
theorem sum_last {m : Nat} {F R : Nat → Int} {a : Int} (h : allOk F R (m + 1) = true) (ha : F m < a) : sum (m + 1) F R a (m + 1) = sum (m + 1) F R (F m) (m + 1) + (a - F m) * R m / 10000 := by
  have hlow : ∀ j, j ≤ m → sum (m + 1) F R a j = sum (m + 1) F R (F m) j := by
    intro j
    induction j with
    | zero => intro _; rfl
    | succ j ih =>
      intro hj
      have h1 := inc h (i := j + 1) (k := m) (by omega) (by omega)
      have h2 := next h (i := j) (by omega)
      simp only [sum, ih (by omega), part, top]
      simp only [if_pos (show F j < a by omega), if_pos (show F j < F m by omega), if_pos (show j + 1 < m + 1 by omega), show min a (F (j + 1)) = F (j + 1) by omega, show min (F m) (F (j + 1)) = F (j + 1) by omega]
  simp only [sum, hlow m (Nat.le_refl _), part, top]
  rw [if_pos ha, if_neg (show ¬ m + 1 < m + 1 by omega), if_neg (show ¬ F m < F m by omega)]
  omega
theorem part_bounds {n : Nat} {F R : Nat → Int} (h : allOk F R n = true) {a : Int} {i : Nat} (hi : i < n) : 0 ≤ part n F R a i := by
  have h2 := width_mono h (Int.le_refl a) hi
  have h3 := ok_gives (ok_of h hi)
  rw [part_eq]
  exact Int.ediv_nonneg (Int.mul_nonneg h2.1 h3.2.2.2.1) (by omega)
theorem sum_le {n : Nat} {F R : Nat → Int} (h : allOk F R n = true) (a : Int) : ∀ k, k ≤ n → 0 ≤ sum n F R a k ∧ sum n F R a k ≤ sum n F R a n := by
  have up : ∀ j k, k + j ≤ n → sum n F R a k ≤ sum n F R a (k + j) := by
    intro j
    induction j with
    | zero => intro k _; exact Int.le_refl _
    | succ j ih =>
      intro k hk
      have h1 := ih k (by omega)
      have h2 := part_bounds h (a := a) (i := k + j) (by omega)
      rw [← Nat.add_assoc]
      simp only [sum]
      omega
  intro k hk
  have h1 := up k 0 (by omega)
  have h2 := up (n - k) k (by omega)
  rw [Nat.zero_add] at h1
  rw [show k + (n - k) = n by omega] at h2
  exact ⟨h1, h2⟩

theorem sum_stop {n k : Nat} {F R : Nat → Int} {a : Int} (h : allOk F R n = true) (hk : k < n) (ha : a ≤ F k) : sum n F R a n = sum n F R a k := by
  have hhigh : ∀ j, j ≤ n - k → sum n F R a (k + j) = sum n F R a k := by
    intro j
    induction j with
    | zero => intro _; rfl
    | succ j ih =>
      intro hj
      have h1 := inc h (i := k) (k := k + j) (by omega) (by omega)
      rw [← Nat.add_assoc]
      simp only [sum, ih (by omega), part]
      rw [if_neg (by omega)]; simp
  have := hhigh (n - k) (Nat.le_refl _)
  rw [show k + (n - k) = n by omega] at this
  exact this
theorem sum_succ {n k : Nat} {F R : Nat → Int} {a : Int} (ha : F k < a) : sum n F R a (k + 1) = sum n F R a k + (top n F a k - F k) * R k / 10000 := by
  simp only [sum, part]; rw [if_pos ha]
theorem sum_skip {n k : Nat} {F R : Nat → Int} {a : Int} (ha : a ≤ F k) : sum n F R a (k + 1) = sum n F R a k := by
  simp only [sum, part]; rw [if_neg (by omega)]; simp
theorem top_in {n k : Nat} {F : Nat → Int} {a : Int} (hk : k + 1 < n) : top n F a k = min a (F (k + 1)) := by unfold top; rw [if_pos hk]
theorem top_out {n k : Nat} {F : Nat → Int} {a : Int} (hk : ¬ k + 1 < n) : top n F a k = a := by unfold top; rw [if_neg hk]
theorem err_of {n : Nat} {F R : Nat → Int} {a : Int} (hc : chk n F R = 0) (h0 : 0 ≤ a) (h1 : a ≤ 1000000000000) : err n F R a = 0 := by
  unfold err; rw [if_pos hc, if_pos ⟨h0, h1⟩]
theorem val_ok {n : Nat} {F R : Nat → Int} {a : Int} (hc : chk n F R = 0) (h0 : 0 ≤ a) (h1 : a ≤ 1000000000000) : val n F R a = sum n F R a n := by
  unfold val; rw [if_pos (err_of hc h0 h1)]
theorem err_ok {n : Nat} {F R : Nat → Int} {a : Int} (h : err n F R a = 0) : n ≤ 8 ∧ allOk F R n = true ∧ 0 ≤ a ∧ a ≤ 1000000000000 ∧ val n F R a = sum n F R a n := by
  have hv : val n F R a = sum n F R a n := by unfold val; rw [if_pos h]
  unfold err at h
  by_cases hc : chk n F R = 0
  · rw [if_pos hc] at h
    by_cases ha : 0 ≤ a ∧ a ≤ 1000000000000
    · exact ⟨(of_chk hc).1, (of_chk hc).2, ha.1, ha.2, hv⟩
    · rw [if_neg ha] at h; cases h
  · rw [if_neg hc] at h; exact absurd h hc
theorem err_chk {n : Nat} {F R : Nat → Int} {a : Int} (hc : chk n F R ≠ 0) : err n F R a = chk n F R ∧ val n F R a = 0 := by
  have h : err n F R a = chk n F R := by unfold err; rw [if_neg hc]
  exact ⟨h, by unfold val; rw [h, if_neg hc]⟩
theorem err_range {n : Nat} {F R : Nat → Int} {a : Int} (hc : chk n F R = 0) (h : a < 0 ∨ 1000000000000 < a) : err n F R a = 2 ∧ val n F R a = 0 := by
  have h : err n F R a = 2 := by unfold err; rw [if_pos hc, if_neg (by omega)]
  exact ⟨h, by unfold val; rw [h]; rfl⟩
theorem val_bad {n : Nat} {F R : Nat → Int} {a : Int} (h : err n F R a ≠ 0) : val n F R a = 0 := by unfold val; rw [if_neg h]
/-- One bracket from 0 on with the rate of the whole costs all. -/
theorem all_of {F R : Nat → Int} {a : Int} (hF : F 0 = 0) (hR : R 0 = 10000) (h0 : 0 ≤ a) (h1 : a ≤ 1000000000000) : err 1 F R a = 0 ∧ val 1 F R a = a := by
  have hok : allOk F R 1 = true := by
    simp only [allOk, Bool.true_and]
    exact ok_mk (by omega) (by omega) (.inl rfl) (by omega) (by omega)
  have hc : chk 1 F R = 0 := chk_yes (by omega) hok
  refine ⟨err_of hc h0 h1, ?_⟩
  rw [val_ok hc h0 h1]
  simp only [sum, part, top, hF, hR]
  by_cases h : 0 < a
  · rw [if_pos h, if_neg (by omega)]; omega
  · rw [if_neg h]; omega
theorem none_of {F R : Nat → Int} {a : Int} (h0 : 0 ≤ a) (h1 : a ≤ 1000000000000) : err 0 F R a = 0 ∧ val 0 F R a = 0 := by
  have hc : chk 0 F R = 0 := chk_yes (by omega) rfl
  exact ⟨err_of hc h0 h1, by rw [val_ok hc h0 h1]; rfl⟩
/-- Brackets of the rate 0 cost nothing. -/
theorem rate0_of {n : Nat} {F R : Nat → Int} {a : Int} (h : err n F R a = 0) : err n F (fun _ => 0) a = 0 ∧ val n F (fun _ => 0) a = 0 := by
  obtain ⟨hn, hok, h0, h1, _⟩ := err_ok h
  have hok' : ∀ k, k ≤ n → allOk F (fun _ => 0) k = true := by
    intro k
    induction k with
    | zero => intro _; rfl
    | succ k ih =>
      intro hk
      have h3 := ok_gives (ok_of hok (k := k) (by omega))
      simp only [allOk, ih (by omega), Bool.true_and]
      exact ok_mk h3.1 h3.2.1 h3.2.2.1 (by omega) (by omega)
  have hc : chk n F (fun _ => 0) = 0 := chk_yes (by omega) (hok' n (Nat.le_refl _))
  exact ⟨err_of hc h0 h1, by rw [val_ok hc h0 h1]; exact sum_rate0 (fun _ _ => rfl) n (Nat.le_refl _)⟩
theorem bounds_of {n : Nat} {F R : Nat → Int} {a : Int} (h : err n F R a = 0) : 0 ≤ val n F R a ∧ val n F R a ≤ a ∧ ((0 < n → a ≤ F 0) → val n F R a = 0) := by
  obtain ⟨hn, hok, h0, h1, hv⟩ := err_ok h
  rw [hv]
  exact ⟨(sum_bounds hok h0).1, (sum_bounds hok h0).2, fun hz => sum_low hok hz⟩
theorem chk_bad {n : Nat} {F R : Nat → Int} {a : Int} (h : err n F R a ≠ 0) (h0 : 0 ≤ a) (h1 : a ≤ 1000000000000) : chk n F R ≠ 0 := fun hc => h (err_of hc h0 h1)
theorem mono_of {n : Nat} {F R : Nat → Int} {a b : Int} (ha : err n F R a = 0) (hb : err n F R b = 0) (hab : a ≤ b) : 0 ≤ val n F R b - val n F R a ∧ val n F R b - val n F R a ≤ b - a := by
  obtain ⟨_, hok, _, _, hv⟩ := err_ok ha
  obtain ⟨_, _, _, _, hv'⟩ := err_ok hb
  rw [hv, hv']; exact sum_step hok hab
theorem next_of {n : Nat} {F R : Nat → Int} {a : Int} (ha : err n F R a = 0) (h : a < 1000000000000) : err n F R (a + 1) = 0 := by
  obtain ⟨hn, hok, h0, _, _⟩ := err_ok ha
  exact err_of (chk_yes (by omega) hok) (by omega) (by omega)
theorem cut_of {n k : Nat} {F R : Nat → Int} {a : Int} (ha : err n F R a = 0) (hk : k < n) (hF : a ≤ F k) : err k F R a = 0 ∧ val k F R a = val n F R a := by
  obtain ⟨hn, hok, h0, h1, hv⟩ := err_ok ha
  have hc : chk k F R = 0 := chk_yes (by omega) (allOk_of hok k (by omega))
  exact ⟨err_of hc h0 h1, by rw [val_ok hc h0 h1, hv]; exact (sum_cut hok hk hF).symm⟩
theorem last_of {m : Nat} {F R : Nat → Int} {a : Int} (ha : err (m + 1) F R a = 0) (hF : F m < a) : err (m + 1) F R (F m) = 0 ∧ val (m + 1) F R a = val (m + 1) F R (F m) + (a - F m) * R m / 10000 := by
  obtain ⟨hn, hok, h0, h1, hv⟩ := err_ok ha
  have h3 := ok_gives (ok_of hok (k := m) (by omega))
  have hc : chk (m + 1) F R = 0 := chk_yes (by omega) hok
  exact ⟨err_of hc h3.1 h3.2.1, by rw [hv, val_ok hc h3.1 h3.2.1]; exact sum_last hok hF⟩
theorem ok_in {n : Nat} {F R : Nat → Int} {a : Int} (ha : err n F R a = 0) {k : Nat} (hk : k < n) : 0 ≤ F k ∧ F k ≤ 1000000000000 ∧ 0 ≤ R k ∧ R k ≤ 10000 := by
  obtain ⟨hn, hok, _⟩ := err_ok ha
  have h3 := ok_gives (ok_of hok hk)
  exact ⟨h3.1, h3.2.1, h3.2.2.2.1, h3.2.2.2.2⟩
end Tx
end Go.Proofs.Ytjifpiaianmmbaa
