/- Natural numbers by their digits, in plain Lean. No statement is proved here. -/
set_option linter.unusedVariables false
namespace Go.Proofs.Yteclghokkdkolaa
namespace Nt
/-- Digit j of N in base b. -/
def dig (b N j : Nat) : Nat := N / b ^ j % b
/-- The number of digits of N in base b. -/
def len (b N : Nat) : Nat := if h : 2 ≤ b ∧ 0 < N then len b (N / b) + 1 else 0
  termination_by N
  decreasing_by exact Nat.div_lt_self h.2 h.1
/-- The number with n given digits. -/
def val (b : Nat) (f : Nat → Nat) : Nat → Nat
  | 0 => 0
  | n + 1 => val b f n + b ^ n * f n

theorem dig_lt {b : Nat} (hb : 0 < b) (N j : Nat) : dig b N j < b := Nat.mod_lt _ hb
theorem dig_high {b N j : Nat} (h : N < b ^ j) : dig b N j = 0 := by
  unfold dig; rw [Nat.div_eq_of_lt h, Nat.zero_mod]
theorem len_zero (b : Nat) : len b 0 = 0 := by rw [len]; simp
theorem len_pos {b N : Nat} (hb : 2 ≤ b) (h : 0 < N) : len b N = len b (N / b) + 1 := by rw [len, dif_pos ⟨hb, h⟩]
theorem lt_pow_len {b : Nat} (hb : 2 ≤ b) (N : Nat) : N < b ^ len b N := by
  induction N using Nat.strongRecOn with
  | _ N ih =>
    rcases Nat.eq_zero_or_pos N with rfl | h
    · rw [len_zero]; simp
    · rw [len_pos hb h, Nat.pow_succ]
      exact (Nat.div_lt_iff_lt_mul (by omega)).1 (ih _ (Nat.div_lt_self h hb))
theorem pow_len_le {b : Nat} (hb : 2 ≤ b) (N : Nat) (h : 0 < N) : b ^ (len b N - 1) ≤ N := by
  induction N using Nat.strongRecOn with
  | _ N ih =>
    rw [len_pos hb h, Nat.add_sub_cancel]
    rcases Nat.eq_zero_or_pos (N / b) with h0 | h1
    · rw [h0, len_zero]; simp; omega
    · have := ih _ (Nat.div_lt_self h hb) h1
      rw [len_pos hb h1, Nat.add_sub_cancel] at this
      rw [len_pos hb h1, Nat.pow_succ]
      exact (Nat.le_div_iff_mul_le (by omega)).1 this
theorem len_le {b N n : Nat} (hb : 2 ≤ b) (h : N < b ^ n) : len b N ≤ n := by
  rcases Nat.eq_zero_or_pos N with rfl | h0
  · rw [len_zero]; omega
  · have h1 := pow_len_le hb N h0
    have h2 : b ^ (len b N - 1) < b ^ n := Nat.lt_of_le_of_lt h1 h
    have := (Nat.pow_lt_pow_iff_right (by omega)).1 h2
    omega
theorem len_eq {b N n : Nat} (hb : 2 ≤ b) (h : N < b ^ n) (h1 : n = 0 ∨ b ^ (n - 1) ≤ N) : len b N = n := by
  have h2 := len_le hb h
  rcases h1 with rfl | h1
  · omega
  · have h3 := lt_pow_len hb N
    have h4 := (Nat.pow_lt_pow_iff_right (a := b) (by omega)).1 (Nat.lt_of_le_of_lt h1 h3)
    omega
theorem len_top {b N : Nat} (hb : 2 ≤ b) (h : 0 < len b N) : dig b N (len b N - 1) ≠ 0 := by
  have h0 : 0 < N := by
    rcases Nat.eq_zero_or_pos N with rfl | h0
    · rw [len_zero] at h; omega
    · exact h0
  have h1 := pow_len_le hb N h0
  have h2 := lt_pow_len hb N
  have hp : 0 < b ^ (len b N - 1) := Nat.pow_pos (by omega)
  have h3 : 1 ≤ N / b ^ (len b N - 1) := (Nat.le_div_iff_mul_le hp).2 (by omega)
  have h4 : N / b ^ (len b N - 1) < b := (Nat.div_lt_iff_lt_mul hp).2 (by
    rw [Nat.mul_comm, ← Nat.pow_succ, show (len b N - 1).succ = len b N by omega]; exact h2)
  unfold dig
  rw [Nat.mod_eq_of_lt h4]; omega
theorem len_dig {b N n : Nat} (hb : 2 ≤ b) (h : N < b ^ n) (h1 : n = 0 ∨ dig b N (n - 1) ≠ 0) : len b N = n := by
  refine len_eq hb h (h1.imp id fun h2 => ?_)
  rcases Nat.lt_or_ge N (b ^ (n - 1)) with h3 | h3
  · exact absurd (dig_high h3) h2
  · exact h3
theorem len_eq_zero {b N : Nat} (hb : 2 ≤ b) : len b N = 0 ↔ N = 0 := by
  constructor
  · intro h
    have := lt_pow_len hb N
    rw [h] at this; simpa using this
  · rintro rfl; exact len_zero b
theorem len_mono {b x y : Nat} (hb : 2 ≤ b) (h : x ≤ y) : len b x ≤ len b y := len_le hb (Nat.lt_of_le_of_lt h (lt_pow_len hb y))
theorem lt_of_len {b x y : Nat} (hb : 2 ≤ b) (h : len b x < len b y) : x < y := by
  rcases Nat.lt_or_ge x y with h1 | h1
  · exact h1
  · have := len_mono hb h1; omega
theorem mod_next (b x k : Nat) : x % b ^ (k + 1) = x % b ^ k + b ^ k * dig b x k := Nat.mod_pow_succ
theorem div_next (b x k : Nat) : x / b ^ k = x / b ^ (k + 1) * b + dig b x k := by
  unfold dig
  rw [Nat.pow_succ, ← Nat.div_div_eq_div_mul]
  have := Nat.div_add_mod (x / b ^ k) b
  rw [Nat.mul_comm] at this; exact this.symm

/-! Comparison from the top. -/
theorem cmp_lt {b x y k : Nat} (h : x / b ^ (k + 1) = y / b ^ (k + 1)) (hd : dig b x k < dig b y k) : x < y := by
  have h1 := div_next b x k
  have h2 := div_next b y k
  rw [h] at h1
  rcases Nat.lt_or_ge x y with h3 | h3
  · exact h3
  · have := Nat.div_le_div_right (c := b ^ k) h3
    omega
theorem cmp_eq {b x y k : Nat} (h : x / b ^ (k + 1) = y / b ^ (k + 1)) (hd : dig b x k = dig b y k) : x / b ^ k = y / b ^ k := by
  rw [div_next b x k, div_next b y k, h, hd]
theorem cmp_top {b x n : Nat} (h : x < b ^ n) : x / b ^ n = 0 := Nat.div_eq_of_lt h

/-! A chain of carries. -/
theorem chain_c {b : Nat} (hb : 0 < b) (T q k : Nat) : (T + b ^ k * q) / b ^ (k + 1) = (T / b ^ k + q) / b := by
  rw [Nat.pow_succ, ← Nat.div_div_eq_div_mul, Nat.add_mul_div_left _ _ (Nat.pow_pos hb)]
theorem chain_d {b : Nat} (hb : 0 < b) (T q k : Nat) : dig b (T + b ^ k * q) k = (T / b ^ k + q) % b := by
  unfold dig
  rw [Nat.add_mul_div_left _ _ (Nat.pow_pos hb)]
theorem chain_lo {b : Nat} (hb : 0 < b) (T q : Nat) {k t : Nat} (h : t < k) : dig b (T + b ^ k * q) t = dig b T t := by
  unfold dig
  obtain ⟨d, rfl⟩ : ∃ d, k = t + 1 + d := ⟨k - t - 1, by omega⟩
  rw [Nat.pow_add, Nat.pow_succ, Nat.mul_assoc, Nat.mul_assoc, Nat.add_mul_div_left _ _ (Nat.pow_pos hb), Nat.add_mul_mod_self_left]
theorem dig_mod {b : Nat} (hb : 0 < b) (N : Nat) {k t : Nat} (h : t < k) : dig b (N % b ^ k) t = dig b N t := by
  have := chain_lo hb (N % b ^ k) (N / b ^ k) h
  rw [Nat.mod_add_div] at this; exact this.symm
theorem dig_ext {b : Nat} (hb : 0 < b) {x y : Nat} : ∀ n, (∀ j, j < n → dig b x j = dig b y j) → x % b ^ n = y % b ^ n := by
  intro n
  induction n with
  | zero => intro _; simp [Nat.mod_one]
  | succ n ih => intro h; rw [mod_next, mod_next, ih fun j hj => h j (by omega), h n (by omega)]

/-! Numbers by their digits. -/
theorem val_lt {b : Nat} {f : Nat → Nat} {n : Nat} (h : ∀ i, i < n → f i < b) : val b f n < b ^ n := by
  induction n with
  | zero => simp [val]
  | succ n ih =>
    have h1 := ih fun i hi => h i (by omega)
    have h2 := h n (by omega)
    have h3 : b ^ n * (f n + 1) ≤ b ^ n * b := Nat.mul_le_mul_left _ h2
    rw [Nat.mul_add, Nat.mul_one] at h3
    rw [val, Nat.pow_succ]; omega
theorem val_dig (b N : Nat) : ∀ n, val b (dig b N) n = N % b ^ n := by
  intro n
  induction n with
  | zero => simp [val, Nat.mod_one]
  | succ n ih => rw [val, ih, mod_next]
theorem dig_val {b : Nat} (hb : 0 < b) {f : Nat → Nat} : ∀ {n : Nat}, (∀ i, i < n → f i < b) → ∀ {j : Nat}, j < n → dig b (val b f n) j = f j := by
  intro n
  induction n with
  | zero => intro _ j hj; omega
  | succ n ih =>
    intro h j hj
    have h2 := val_lt (b := b) (f := f) (n := n) fun i hi => h i (by omega)
    rw [val]
    rcases Nat.lt_or_ge j n with h3 | h3
    · rw [chain_lo hb _ _ h3]; exact ih (fun i hi => h i (by omega)) h3
    · obtain rfl : j = n := by omega
      rw [chain_d hb, Nat.div_eq_of_lt h2, Nat.zero_add, Nat.mod_eq_of_lt (h j (by omega))]
theorem len_val {b : Nat} (hb : 2 ≤ b) {f : Nat → Nat} {n : Nat} (h : ∀ i, i < n → f i < b) (h1 : n = 0 ∨ f (n - 1) ≠ 0) : len b (val b f n) = n := by
  refine len_dig hb (val_lt h) ?_
  rcases h1 with h1 | h1
  · exact .inl h1
  · rcases Nat.eq_zero_or_pos n with h2 | h2
    · exact .inl h2
    · right; rw [dig_val (by omega) h (by omega)]; exact h1

/-! Sums. -/
/-- The carry into digit k of x + y. -/
def car (b x y k : Nat) : Nat := (x % b ^ k + y % b ^ k) / b ^ k
theorem car_zero (b x y : Nat) : car b x y 0 = 0 := by simp [car, Nat.mod_one]
theorem car_le {b : Nat} (hb : 0 < b) (x y k : Nat) : car b x y k ≤ 1 := by
  have hp : 0 < b ^ k := Nat.pow_pos hb
  have h1 := Nat.mod_lt x hp
  have h2 := Nat.mod_lt y hp
  unfold car
  have : (x % b ^ k + y % b ^ k) / b ^ k < 2 := (Nat.div_lt_iff_lt_mul hp).2 (by omega)
  omega
theorem add_mod_next (b x y k : Nat) : x % b ^ (k + 1) + y % b ^ (k + 1) = (x % b ^ k + y % b ^ k) + b ^ k * (dig b x k + dig b y k) := by
  rw [mod_next, mod_next, Nat.mul_add]; omega
theorem car_next {b : Nat} (hb : 0 < b) (x y k : Nat) : car b x y (k + 1) = (car b x y k + (dig b x k + dig b y k)) / b := by
  unfold car
  rw [add_mod_next, chain_c hb]
theorem dig_add {b : Nat} (hb : 0 < b) (x y k : Nat) : dig b (x + y) k = (car b x y k + (dig b x k + dig b y k)) % b := by
  have h1 : dig b (x + y) k = dig b (x % b ^ (k + 1) + y % b ^ (k + 1)) k := by
    rw [← dig_mod hb (x + y) (Nat.lt_succ_self k), ← dig_mod hb (x % b ^ (k + 1) + y % b ^ (k + 1)) (Nat.lt_succ_self k), Nat.add_mod]
  rw [h1, add_mod_next, chain_d hb]; rfl
theorem add_step {b : Nat} (hb : 0 < b) (x y k : Nat) : car b x y k + dig b x k + dig b y k = b * car b x y (k + 1) + dig b (x + y) k := by
  rw [car_next hb, dig_add hb, Nat.div_add_mod]; omega
theorem car_end {b x y n : Nat} (hx : x < b ^ n) (hy : y < b ^ n) : car b x y n = (x + y) / b ^ n := by
  unfold car; rw [Nat.mod_eq_of_lt hx, Nat.mod_eq_of_lt hy]
/-- The last carry is the digit above. -/
theorem car_top {b x y n : Nat} (hb : 2 ≤ b) (hx : x < b ^ n) (hy : y < b ^ n) : car b x y n = dig b (x + y) n ∧ x + y < b ^ (n + 1) := by
  have h1 := car_le (b := b) (by omega) x y n
  have h2 := car_end hx hy
  have h3 : b ^ n * 2 ≤ b ^ n * b := Nat.mul_le_mul_left _ hb
  constructor
  · unfold dig; rw [← h2, Nat.mod_eq_of_lt (by omega)]
  · rw [Nat.pow_succ]; omega
/-! Differences: with x = z + y. -/
theorem sub_step {b : Nat} (hb : 0 < b) {x y z : Nat} (h : z + y = x) (k : Nat) :
    (dig b x k < car b z y k + dig b y k → car b z y (k + 1) = 1 ∧ dig b z k = dig b x k + b - (car b z y k + dig b y k)) ∧
    (¬ dig b x k < car b z y k + dig b y k → car b z y (k + 1) = 0 ∧ dig b z k = dig b x k - (car b z y k + dig b y k)) := by
  have h1 := add_step hb z y k
  rw [h] at h1
  have h2 := car_le hb z y (k + 1)
  have h3 := dig_lt hb z k
  have h4 := dig_lt hb x k
  rcases (show car b z y (k + 1) = 0 ∨ car b z y (k + 1) = 1 by omega) with e | e
  · rw [e, Nat.mul_zero, Nat.zero_add] at h1
    exact ⟨fun hl => by omega, fun _ => ⟨e, by omega⟩⟩
  · rw [e, Nat.mul_one] at h1
    exact ⟨fun _ => ⟨e, by omega⟩, fun hl => by omega⟩
/-! Products, row by row. -/
/-- Behind i rows and j products of the next row, below digit i + j. -/
def mrow (b x y i j : Nat) : Nat := (x % b ^ i * y) % b ^ (i + j) + dig b x i * (y % b ^ j) * b ^ i
theorem mrow_next (b x y i j : Nat) : mrow b x y i (j + 1) = mrow b x y i j + b ^ (i + j) * (dig b (x % b ^ i * y) (i + j) + dig b x i * dig b y j) := by
  unfold mrow
  rw [show i + (j + 1) = i + j + 1 by omega, mod_next, mod_next, Nat.mul_add, Nat.mul_add, Nat.add_mul, Nat.pow_add]
  rw [show dig b x i * (b ^ j * dig b y j) * b ^ i = b ^ i * b ^ j * (dig b x i * dig b y j) by
    rw [Nat.mul_comm (b ^ i * b ^ j), Nat.mul_assoc, Nat.mul_assoc, Nat.mul_assoc, Nat.mul_comm (b ^ j), Nat.mul_assoc]]
  omega
theorem mrow_zero (b x y i : Nat) : mrow b x y i 0 = (x % b ^ i * y) % b ^ i := by simp [mrow, Nat.mod_one]
theorem mul_next (b x y i : Nat) : x % b ^ (i + 1) * y = x % b ^ i * y + dig b x i * y * b ^ i := by
  rw [mod_next, Nat.add_mul, Nat.mul_assoc, Nat.mul_comm (b ^ i)]
theorem mrow_lt {b : Nat} (hb : 0 < b) (x y i j : Nat) : mrow b x y i j < b ^ (i + j + 1) := by
  have h1 := Nat.mod_lt (x % b ^ i * y) (Nat.pow_pos (n := i + j) hb)
  have h2 := Nat.mod_lt y (Nat.pow_pos (n := j) hb)
  have h3 := dig_lt hb x i
  have h4 : dig b x i * (y % b ^ j) * b ^ i ≤ (b - 1) * (b ^ j) * b ^ i := Nat.mul_le_mul_right _ (Nat.mul_le_mul (by omega) (Nat.le_of_lt h2))
  have h5 : (b - 1) * (b ^ j) * b ^ i = (b - 1) * b ^ (i + j) := by rw [Nat.pow_add, Nat.mul_assoc, Nat.mul_comm (b ^ j)]
  have h6 : b ^ (i + j + 1) = (b - 1) * b ^ (i + j) + b ^ (i + j) := by
    obtain ⟨c, rfl⟩ : ∃ c, b = c + 1 := ⟨b - 1, by omega⟩
    rw [Nat.add_sub_cancel, Nat.pow_succ, Nat.mul_add, Nat.mul_one, Nat.mul_comm]
  unfold mrow; omega
theorem prod_lt {b x y i m : Nat} (hb : 0 < b) (hy : y < b ^ m) : x % b ^ i * y < b ^ (i + m) := by
  have h2 := Nat.mod_lt x (Nat.pow_pos (n := i) hb)
  rw [Nat.pow_add]
  exact Nat.mul_lt_mul_of_lt_of_le h2 (Nat.le_of_lt hy) (by omega)
theorem mrow_end {b x y i m : Nat} (hb : 0 < b) (hy : y < b ^ m) : mrow b x y i m = x % b ^ (i + 1) * y := by
  have h1 : x % b ^ i * y < b ^ (i + m) := by
    have h2 := Nat.mod_lt x (Nat.pow_pos (n := i) hb)
    rw [Nat.pow_add]
    exact Nat.mul_lt_mul_of_lt_of_le h2 (Nat.le_of_lt hy) (by omega)
  rw [mul_next]
  unfold mrow
  rw [Nat.mod_eq_of_lt h1, Nat.mod_eq_of_lt hy]
/-- The cells of the product behind j products of row i. -/
def mcell (b x y i j t : Nat) : Nat := if t < i + j then dig b (mrow b x y i j) t else dig b (x % b ^ i * y) t
/-- The carry there. -/
def mcar (b x y i j : Nat) : Nat := mrow b x y i j / b ^ (i + j)
theorem mcar_zero {b : Nat} (hb : 0 < b) (x y i : Nat) : mcar b x y i 0 = 0 := by
  unfold mcar; rw [mrow_zero]; exact Nat.div_eq_of_lt (Nat.mod_lt _ (Nat.pow_pos hb))
theorem mcar_lt {b : Nat} (hb : 0 < b) (x y i j : Nat) : mcar b x y i j < b := by
  unfold mcar
  exact (Nat.div_lt_iff_lt_mul (Nat.pow_pos hb)).2 (by rw [Nat.mul_comm, ← Nat.pow_succ]; exact mrow_lt hb x y i j)
theorem mcell_zero {b : Nat} (hb : 0 < b) (x y i t : Nat) : mcell b x y i 0 t = dig b (x % b ^ i * y) t := by
  unfold mcell
  rw [mrow_zero, Nat.add_zero]
  split
  · rename_i h; exact dig_mod hb _ h
  · rfl
theorem mcell_old (b x y i j : Nat) : mcell b x y i j (i + j) = dig b (x % b ^ i * y) (i + j) := by
  unfold mcell; rw [if_neg (by omega)]
theorem m_step {b : Nat} (hb : 0 < b) (x y i j : Nat) : mcar b x y i j + (dig b (x % b ^ i * y) (i + j) + dig b x i * dig b y j) = b * mcar b x y i (j + 1) + mcell b x y i (j + 1) (i + j) := by
  have h1 : mcar b x y i (j + 1) = (mcar b x y i j + (dig b (x % b ^ i * y) (i + j) + dig b x i * dig b y j)) / b := by
    unfold mcar
    rw [mrow_next, show i + (j + 1) = i + j + 1 by omega, chain_c hb]
  have h2 : mcell b x y i (j + 1) (i + j) = (mcar b x y i j + (dig b (x % b ^ i * y) (i + j) + dig b x i * dig b y j)) % b := by
    unfold mcell mcar
    rw [if_pos (by omega), mrow_next, chain_d hb]
  rw [h1, h2, Nat.div_add_mod]
theorem mcell_next {b : Nat} (hb : 0 < b) {x y i j t : Nat} (ht : t ≠ i + j) : mcell b x y i (j + 1) t = mcell b x y i j t := by
  unfold mcell
  by_cases h : t < i + j
  · rw [if_pos (by omega), if_pos h, mrow_next, chain_lo hb _ _ h]
  · rw [if_neg (by omega), if_neg h]
/-- Behind a whole row, with its last carry stored. -/
theorem mcell_end {b : Nat} (hb : 0 < b) {x y i m t : Nat} (hy : y < b ^ m) : (if t = i + m then mcar b x y i m else mcell b x y i m t) = dig b (x % b ^ (i + 1) * y) t := by
  have h1 := mrow_end (x := x) (i := i) hb hy
  have h2 := prod_lt (x := x) (i := i) hb hy
  have h3 := prod_lt (x := x) (i := i + 1) hb hy
  by_cases e : t = i + m
  · subst e
    rw [if_pos rfl]
    unfold mcar
    rw [h1]
    have h4 : b ^ (i + 1 + m) = b * b ^ (i + m) := by rw [show i + 1 + m = i + m + 1 by omega, Nat.pow_succ, Nat.mul_comm]
    rw [h4] at h3
    exact (Nat.mod_eq_of_lt ((Nat.div_lt_iff_lt_mul (Nat.pow_pos hb)).2 h3)).symm
  · rw [if_neg e]
    unfold mcell
    by_cases h : t < i + m
    · rw [if_pos h, h1]
    · rw [if_neg h, dig_high (Nat.lt_of_lt_of_le h2 (Nat.pow_le_pow_right hb (by omega))), dig_high (Nat.lt_of_lt_of_le h3 (Nat.pow_le_pow_right hb (by omega)))]
/-- A row that ends when no carry is left. -/
theorem mcell_done {b : Nat} (hb : 0 < b) {x y i j m t : Nat} (hy : y < b ^ m) (hj : m ≤ j) (hc : mcar b x y i j = 0) : mcell b x y i j t = dig b (x % b ^ (i + 1) * y) t := by
  have := mcell_end (x := x) (i := i) (t := t) hb (Nat.lt_of_lt_of_le hy (Nat.pow_le_pow_right hb hj))
  rw [← this]
  by_cases e : t = i + j
  · subst e
    rw [if_pos rfl, hc, mcell_old]
    exact dig_high (Nat.lt_of_lt_of_le (prod_lt hb hy) (Nat.pow_le_pow_right hb (by omega)))
  · rw [if_neg e]
theorem mcar_far {b : Nat} (hb : 0 < b) {x y i j m : Nat} (hy : y < b ^ m) (hj : m < j) : mcar b x y i j = 0 := by
  unfold mcar
  rw [mrow_end hb (Nat.lt_of_lt_of_le hy (Nat.pow_le_pow_right hb (by omega)))]
  exact Nat.div_eq_of_lt (Nat.lt_of_lt_of_le (prod_lt hb hy) (Nat.pow_le_pow_right hb (by omega)))
/-! Long division, digit by digit from the top. -/
/-- What is divided for digit j: the rest of what stands above, and digit j. -/
def win (b u v j : Nat) : Nat := u / b ^ (j + 1) % v * b + dig b u j
theorem div_rest (b u j : Nat) : u / b ^ j = u / b ^ (j + 1) * b + dig b u j := div_next b u j
theorem win_div {b u v j : Nat} (hb : 0 < b) (hv : 0 < v) : u / b ^ j = v * (b * (u / b ^ (j + 1) / v)) + win b u v j := by
  rw [div_rest]
  unfold win
  have h := Nat.div_add_mod (u / b ^ (j + 1)) v
  generalize u / b ^ (j + 1) % v = r at *
  generalize u / b ^ (j + 1) / v = q at *
  rw [← h, Nat.add_mul, Nat.mul_assoc, Nat.mul_comm q b]; omega
theorem win_lt {b u v j : Nat} (hb : 0 < b) (hv : 0 < v) : win b u v j < v * b := by
  have h1 := Nat.mod_lt (u / b ^ (j + 1)) hv
  have h2 := dig_lt hb u j
  have h3 : (u / b ^ (j + 1) % v + 1) * b ≤ v * b := Nat.mul_le_mul_right _ h1
  rw [Nat.add_mul, Nat.one_mul] at h3
  unfold win; omega
theorem win_mod {b u v j : Nat} (hb : 0 < b) (hv : 0 < v) : u / b ^ j % v = win b u v j % v := by
  rw [win_div hb hv, Nat.mul_add_mod]
theorem dig_quo {b u v j : Nat} (hb : 0 < b) (hv : 0 < v) : dig b (u / v) j = win b u v j / v := by
  unfold dig
  rw [Nat.div_div_eq_div_mul, Nat.mul_comm v, ← Nat.div_div_eq_div_mul, win_div hb hv, Nat.mul_add_div hv, Nat.mul_add_mod]
  exact Nat.mod_eq_of_lt ((Nat.div_lt_iff_lt_mul hv).2 (by rw [Nat.mul_comm]; exact win_lt hb hv))
/-- A guess of the quotient R / v by its highest digits: e is b^(n-2), d2 and u3 the two and the three highest digits. -/
theorem guess_le {R v d2 u3 e q : Nat} (hq : q * v ≤ R) (hv : d2 * e ≤ v) (hR : R < (u3 + 1) * e) : q * d2 ≤ u3 := by
  have h1 : q * d2 * e ≤ R := by
    rw [Nat.mul_assoc]; exact Nat.le_trans (Nat.mul_le_mul_left _ hv) hq
  have h2 : q * d2 * e < (u3 + 1) * e := Nat.lt_of_le_of_lt h1 hR
  have := Nat.lt_of_mul_lt_mul_right h2
  omega
theorem guess_ge {R v d2 u3 e g : Nat} (hg : g * d2 ≤ u3) (hR : u3 * e ≤ R) (hv : v ≤ (d2 + 1) * e) (he : g * e ≤ v) (hv0 : 0 < v) (hg0 : 0 < g) : (g - 1) * v ≤ R := by
  have h1 : g * v ≤ g * ((d2 + 1) * e) := Nat.mul_le_mul_left _ hv
  have h2 : g * ((d2 + 1) * e) = g * d2 * e + g * e := by
    rw [Nat.add_mul, Nat.mul_add, Nat.one_mul, Nat.mul_assoc]
  have h3 : g * d2 * e ≤ u3 * e := Nat.mul_le_mul_right _ hg
  have h4 : g * v = (g - 1) * v + v := by
    obtain ⟨g', rfl⟩ : ∃ g', g = g' + 1 := ⟨g - 1, by omega⟩
    rw [Nat.add_sub_cancel, Nat.add_mul, Nat.one_mul]
  omega
/-- The quotient is the guess, or one less. -/
theorem guess_end {R v g : Nat} (hv : 0 < v) (h1 : R / v ≤ g) (h2 : g = 0 ∨ (g - 1) * v ≤ R) : R / v = g ∨ R / v + 1 = g := by
  rcases h2 with h2 | h2
  · generalize R / v = q at *
    omega
  · have := (Nat.le_div_iff_mul_le hv).2 h2
    generalize R / v = q at *
    omega
end Nt
end Go.Proofs.Yteclghokkdkolaa
