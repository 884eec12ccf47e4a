/- The account of a retailer in plain Lean: its terms, its state, and what each call does. -/
set_option linter.unusedVariables false
namespace Go.Proofs.Ytpalmlcepppifaa
namespace Rt
/-- The terms. -/
structure Tm where
  (sale cash bonus above credit : Int)
/-- The sums of a period. -/
structure St where
  (s r c : Int)
def zero : St := ⟨0, 0, 0⟩
def rate (x : Int) : Prop := 0 ≤ x ∧ x ≤ 10000
def amt (x : Int) : Prop := 0 ≤ x ∧ x ≤ 1000000000000
instance (x : Int) : Decidable (rate x) := by unfold rate; infer_instance
instance (x : Int) : Decidable (amt x) := by unfold amt; infer_instance
def okT (t : Tm) : Prop := rate t.sale ∧ rate t.cash ∧ rate t.bonus ∧ amt t.above ∧ amt t.credit
instance (t : Tm) : Decidable (okT t) := by unfold okT; infer_instance
def okS (x : St) : Prop := amt x.s ∧ amt x.r ∧ amt x.c
theorem okS_zero : okS zero := by unfold okS zero amt; simp
/-- Net sales, or 0. -/
def pos (x : St) : Int := if x.s - x.r < 0 then 0 else x.s - x.r
/-- Net sales above the threshold, or 0. -/
def over (t : Tm) (x : St) : Int := if pos x - t.above < 0 then 0 else pos x - t.above
/-- The commission. -/
def com (t : Tm) (x : St) : Int := pos x * t.sale / 10000 + x.c * t.cash / 10000 + over t x * t.bonus / 10000
def due (t : Tm) (x : St) : Int := x.s - x.r - x.c - com t x
/-- The error of an amount beside a sum. -/
def room (sum a : Int) : Int := if 0 ≤ a ∧ a ≤ 1000000000000 then (if 1000000000000 < sum + a then 9 else 0) else 2
/-- The error of a sale. -/
def sErr (t : Tm) (x : St) (a : Int) : Int := if room x.s a = 0 then (if t.credit ≠ 0 ∧ t.credit < x.s - x.r + a - x.c then 32 else 0) else room x.s a
/-- The error of a call. -/
def err (t : Tm) (x : St) (k a : Int) : Int := if k = 0 then sErr t x a else if k = 1 then room x.r a else if k = 2 then room x.c a else 0
/-- The state behind a call. -/
def nxt (t : Tm) (x : St) (k a : Int) : St :=
  if k = 0 then (if sErr t x a = 0 then ⟨x.s + a, x.r, x.c⟩ else x) else
  if k = 1 then (if room x.r a = 0 then ⟨x.s, x.r + a, x.c⟩ else x) else
  if k = 2 then (if room x.c a = 0 then ⟨x.s, x.r, x.c + a⟩ else x) else
  if k = 3 then zero else x

theorem room_ok {m a : Int} (h : room m a = 0) : 0 ≤ a ∧ a ≤ 1000000000000 ∧ m + a ≤ 1000000000000 := by
  unfold room at h
  by_cases c : 0 ≤ a ∧ a ≤ 1000000000000
  · rw [if_pos c] at h
    by_cases d : 1000000000000 < m + a
    · rw [if_pos d] at h; cases h
    · exact ⟨c.1, c.2, by omega⟩
  · rw [if_neg c] at h; cases h
theorem room_yes {m a : Int} (h0 : 0 ≤ a) (h1 : a ≤ 1000000000000) (h : m + a ≤ 1000000000000) : room m a = 0 := by
  unfold room; rw [if_pos ⟨h0, h1⟩, if_neg (by omega)]
theorem room_range {m a : Int} (h : a < 0 ∨ 1000000000000 < a) : room m a = 2 := by
  unfold room; rw [if_neg (by omega)]
theorem room_over {m a : Int} (h0 : 0 ≤ a) (h1 : a ≤ 1000000000000) (h : 1000000000000 < m + a) : room m a = 9 := by
  unfold room; rw [if_pos ⟨h0, h1⟩, if_pos h]
theorem room_cases (m a : Int) : room m a = 0 ∨ room m a = 2 ∨ room m a = 9 := by
  unfold room; split
  · split <;> simp
  · simp
theorem sErr_ok {t : Tm} {x : St} {a : Int} (h : sErr t x a = 0) : room x.s a = 0 ∧ (t.credit = 0 ∨ x.s - x.r + a - x.c ≤ t.credit) := by
  unfold sErr at h
  by_cases c : room x.s a = 0
  · rw [if_pos c] at h
    by_cases d : t.credit ≠ 0 ∧ t.credit < x.s - x.r + a - x.c
    · rw [if_pos d] at h; cases h
    · exact ⟨c, by omega⟩
  · rw [if_neg c] at h; exact absurd h c
theorem sErr_yes {t : Tm} {x : St} {a : Int} (h : room x.s a = 0) (h1 : t.credit = 0 ∨ x.s - x.r + a - x.c ≤ t.credit) : sErr t x a = 0 := by
  unfold sErr; rw [if_pos h, if_neg (by omega)]
theorem sErr_credit {t : Tm} {x : St} {a : Int} (h : room x.s a = 0) (h0 : t.credit ≠ 0) (h1 : t.credit < x.s - x.r + a - x.c) : sErr t x a = 32 := by
  unfold sErr; rw [if_pos h, if_pos ⟨h0, h1⟩]
theorem sErr_room {t : Tm} {x : St} {a : Int} (h : room x.s a ≠ 0) : sErr t x a = room x.s a := by
  unfold sErr; rw [if_neg h]
theorem okS_nxt {t : Tm} {x : St} {k a : Int} (h : okS x) : okS (nxt t x k a) := by
  unfold okS amt at h
  unfold nxt
  split
  · split
    · rename_i e; have := room_ok (sErr_ok e).1; unfold okS amt; simp only; omega
    · exact h
  · split
    · split
      · rename_i e; have := room_ok e; unfold okS amt; simp only; omega
      · exact h
    · split
      · split
        · rename_i e; have := room_ok e; unfold okS amt; simp only; omega
        · exact h
      · split
        · exact okS_zero
        · exact h
theorem pos_bd {x : St} (h : okS x) : 0 ≤ pos x ∧ pos x ≤ 1000000000000 := by
  unfold okS amt at h; unfold pos; split <;> omega
theorem over_bd {t : Tm} {x : St} (ht : okT t) (h : okS x) : 0 ≤ over t x ∧ over t x ≤ 1000000000000 := by
  have := pos_bd h
  unfold okT amt at ht; unfold over; split <;> omega
theorem part_bd {m b : Int} (h0 : 0 ≤ m) (h1 : m ≤ 1000000000000) (h2 : 0 ≤ b) (h3 : b ≤ 10000) : 0 ≤ m * b / 10000 ∧ m * b / 10000 ≤ 1000000000000 := by
  have h4 : m * b ≤ 1000000000000 * 10000 := Int.mul_le_mul h1 h3 h2 (by omega)
  have h5 : 0 ≤ m * b := Int.mul_nonneg h0 h2
  omega
theorem com_bd {t : Tm} {x : St} (ht : okT t) (h : okS x) : 0 ≤ com t x ∧ com t x ≤ 3000000000000 := by
  have hp := pos_bd h
  have ho := over_bd ht h
  unfold okT rate amt at ht
  unfold okS amt at h
  have h1 := part_bd hp.1 hp.2 ht.1.1 ht.1.2
  have h2 := part_bd h.2.2.1 h.2.2.2 ht.2.1.1 ht.2.1.2
  have h3 := part_bd ho.1 ho.2 ht.2.2.1.1 ht.2.2.1.2
  unfold com
  omega
/-- A call that returns an error changes nothing. -/
theorem err_bad {t : Tm} {x : St} {k a : Int} (h : err t x k a ≠ 0) : nxt t x k a = x ∧ (k = 0 ∨ k = 1 ∨ k = 2) := by
  unfold err at h
  unfold nxt
  by_cases k0 : k = 0
  · rw [if_pos k0] at h ⊢
    exact ⟨if_neg h, .inl k0⟩
  · rw [if_neg k0] at h ⊢
    by_cases k1 : k = 1
    · rw [if_pos k1] at h ⊢
      exact ⟨if_neg h, .inr (.inl k1)⟩
    · rw [if_neg k1] at h ⊢
      by_cases k2 : k = 2
      · rw [if_pos k2] at h ⊢
        exact ⟨if_neg h, .inr (.inr k2)⟩
      · rw [if_neg k2] at h; exact absurd rfl h
theorem nxt_open {t : Tm} {x : St} {k a : Int} (h : k < 0 ∨ 3 < k) : nxt t x k a = x := by
  unfold nxt
  rw [if_neg (by omega), if_neg (by omega), if_neg (by omega), if_neg (by omega)]
/-- A part by quotient and remainder. -/
theorem part_eq (m b : Int) : m / 10000 * b + m % 10000 * b / 10000 = m * b / 10000 := by
  have h : m * b = m % 10000 * b + 10000 * (m / 10000 * b) := by
    have e := Int.emod_add_mul_ediv m 10000
    calc m * b = (m % 10000 + 10000 * (m / 10000)) * b := by rw [e]
      _ = m % 10000 * b + 10000 * (m / 10000 * b) := by rw [Int.add_mul, Int.mul_assoc]
  rw [h, Int.add_mul_ediv_left _ _ (by decide)]
  omega
end Rt
end Go.Proofs.Ytpalmlcepppifaa
