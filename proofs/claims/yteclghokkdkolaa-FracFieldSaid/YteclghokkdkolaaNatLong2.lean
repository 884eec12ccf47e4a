/- Long division in plain Lean: what stands in the rest, and the guess of a digit. -/
import Derived.Test.YteclghokkdkolaaNatLong1
set_option linter.unusedVariables false
namespace Go.Proofs.Yteclghokkdkolaa

def lrest (u v k : Nat) : Nat := u / 4294967296 ^ k % v
def lwin (u v j : Nat) : Nat := lrest u v (j + 1) * 4294967296 + d32 u j
theorem lwin_quo {u v j : Nat} (hv : 0 < v) : d32 (u / v) j = lwin u v j / v := Nt.dig_quo (by omega) hv
theorem lwin_rem {u v j : Nat} (hv : 0 < v) : lrest u v j = lwin u v j % v := Nt.win_mod (by omega) hv
theorem lwin_lt {u v j : Nat} (hv : 0 < v) : lwin u v j < v * 4294967296 := Nt.win_lt (by omega) hv
theorem lrest_lt {u v k : Nat} (hv : 0 < v) : lrest u v k < v := Nat.mod_lt _ hv
theorem d32_cat {r d t : Nat} (hd : d < 4294967296) : d32 (r * 4294967296 + d) t = if t = 0 then d else d32 r (t - 1) := by
  by_cases h : t = 0
  · subst h
    rw [if_pos rfl]
    unfold d32 Nt.dig
    rw [Nat.pow_zero, Nat.div_one]; omega
  · rw [if_neg h]
    obtain ⟨k, rfl⟩ : ∃ k, t = k + 1 := ⟨t - 1, by omega⟩
    unfold d32 Nt.dig
    rw [Nat.add_sub_cancel, Nat.pow_succ, Nat.mul_comm (4294967296 ^ k), ← Nat.div_div_eq_div_mul, show (r * 4294967296 + d) / 4294967296 = r by omega]
/-- What stands in the rest when the digits from k on are done. -/
def rcell (u v k t : Nat) : Nat := if t < k then d32 u t else d32 (lrest u v k) (t - k)
theorem rcell_start {u v k : Nat} (h : u / 4294967296 ^ k < v) (t : Nat) : rcell u v k t = d32 u t := by
  unfold rcell
  by_cases ht : t < k
  · rw [if_pos ht]
  · rw [if_neg ht]
    unfold lrest
    rw [Nat.mod_eq_of_lt h]
    unfold d32 Nt.dig
    rw [Nat.div_div_eq_div_mul, ← Nat.pow_add, show k + (t - k) = t by omega]
theorem rcell_win (u v j t : Nat) : rcell u v (j + 1) (j + t) = d32 (lwin u v j) t := by
  unfold lwin
  rw [d32_cat (d32_lt u j)]
  unfold rcell
  by_cases h : t = 0
  · subst h; rw [if_pos (by omega), if_pos rfl, Nat.add_zero]
  · rw [if_neg (by omega), if_neg h, show j + t - (j + 1) = t - 1 by omega]
theorem high_zero {x m t : Nat} (h : Fit32 x m) (ht : m ≤ t) : d32 x t = 0 := Nt.dig_high (Nat.lt_of_lt_of_le h (Nat.pow_le_pow_right (by omega) ht))
theorem rcell_next {u v j m : Nat} (hv0 : 0 < v) (hv : Fit32 v m) (t : Nat) : (if j ≤ t ∧ t < j + (m + 1) then d32 (lwin u v j % v) (t - j) else rcell u v (j + 1) t) = rcell u v j t := by
  unfold rcell
  rw [← lwin_rem hv0]
  by_cases h : t < j
  · rw [if_neg (by omega), if_pos (by omega), if_pos h]
  · rw [if_neg h]
    by_cases h2 : t < j + (m + 1)
    · rw [if_pos ⟨by omega, h2⟩]
    · rw [if_neg (by omega), if_neg (by omega)]
      have h3 : Fit32 (lrest u v (j + 1)) m := Nat.lt_trans (lrest_lt hv0) hv
      have h4 : Fit32 (lrest u v j) m := Nat.lt_trans (lrest_lt hv0) hv
      rw [high_zero h3 (by omega), high_zero h4 (by omega)]
theorem rcell_end (u v t : Nat) : rcell u v 0 t = d32 (u % v) t := by
  unfold rcell lrest
  rw [if_neg (by omega), Nat.pow_zero, Nat.div_one, Nat.sub_zero]

/-! The guess of a digit: W is divided by v, which has m limbs. -/
structure Gs (W v m top next head w2 : Nat) : Prop where
  hm : 2 ≤ m
  fit : Fit32 v m
  big : 4294967296 ^ (m - 1) ≤ v
  half : 4294967296 ≤ 2 * top
  small : W < v * 4294967296
  v2 : v / 4294967296 ^ (m - 2) = top * 4294967296 + next
  w3 : W / 4294967296 ^ (m - 2) = head * 4294967296 + w2
  n1 : next < 4294967296
  n2 : w2 < 4294967296
theorem Gs.mk_ {W v m : Nat} (hm : 2 ≤ m) (fit : Fit32 v m) (big : 4294967296 ^ (m - 1) ≤ v) (half : 4294967296 ≤ 2 * d32 v (m - 1)) (small : W < v * 4294967296) :
    Gs W v m (d32 v (m - 1)) (d32 v (m - 2)) (d32 W m * 4294967296 + d32 W (m - 1)) (d32 W (m - 2)) := by
  have hW : W < 4294967296 ^ (m + 1) := by
    rw [Nat.pow_succ]
    exact Nat.lt_trans small (Nat.mul_lt_mul_of_pos_right fit (by omega))
  refine ⟨hm, fit, big, half, small, ?_, ?_, d32_lt _ _, d32_lt _ _⟩
  · have h1 := Nt.div_next 4294967296 v (m - 2)
    have h2 := Nt.div_next 4294967296 v (m - 1)
    rw [show m - 2 + 1 = m - 1 by omega] at h1
    rw [show m - 1 + 1 = m by omega, Nat.div_eq_of_lt fit, Nat.zero_mul, Nat.zero_add] at h2
    rw [h1, h2]; rfl
  · have h1 := Nt.div_next 4294967296 W (m - 2)
    have h2 := Nt.div_next 4294967296 W (m - 1)
    have h3 := Nt.div_next 4294967296 W m
    rw [show m - 2 + 1 = m - 1 by omega] at h1
    rw [show m - 1 + 1 = m by omega] at h2
    rw [Nat.div_eq_of_lt hW, Nat.zero_mul, Nat.zero_add] at h3
    rw [h1, h2, h3]; rfl
variable {W v m top next head w2 : Nat}
theorem Gs.pos (g : Gs W v m top next head w2) : 0 < v := Nat.lt_of_lt_of_le (Nat.pow_pos (by omega)) g.big
theorem Gs.qlt (g : Gs W v m top next head w2) : W / v < 4294967296 := (Nat.div_lt_iff_lt_mul g.pos).2 (by rw [Nat.mul_comm]; exact g.small)
theorem Gs.qd (g : Gs W v m top next head w2) : W / v * (top * 4294967296 + next) ≤ head * 4294967296 + w2 := by
  rw [← g.v2, ← g.w3]
  have he : 0 < 4294967296 ^ (m - 2) := Nat.pow_pos (by omega)
  refine Nt.guess_le (R := W) (v := v) (e := 4294967296 ^ (m - 2)) (Nat.div_mul_le_self _ _) (Nat.div_mul_le_self _ _) ?_
  have := Nat.lt_mul_div_succ W he
  rw [Nat.mul_comm]; exact this
theorem Gs.start (g : Gs W v m top next head w2) : W / v ≤ head / top ∧ head / top ≤ 4294967297 := by
  have h0 : 0 < top := by have := g.half; omega
  constructor
  · refine (Nat.le_div_iff_mul_le h0).2 ?_
    have h1 := g.qd
    have h2 := g.n2
    rw [Nat.mul_add, ← Nat.mul_assoc] at h1
    generalize W / v * top = a at *
    generalize W / v * next = b at *
    omega
  · have h1 : head * 4294967296 + w2 < (top * 4294967296 + next + 1) * 4294967296 := by
      rw [← g.w3, ← g.v2]
      have he : 0 < 4294967296 ^ (m - 2) := Nat.pow_pos (by omega)
      refine (Nat.div_lt_iff_lt_mul he).2 (Nat.lt_of_lt_of_le g.small ?_)
      have h2 := Nat.lt_mul_div_succ v he
      rw [Nat.mul_right_comm]
      refine Nat.mul_le_mul_right _ ?_
      rw [Nat.mul_comm]; omega
    have h2 := g.n1
    have h3 : head / top < 4294967298 := (Nat.div_lt_iff_lt_mul h0).2 (by have := g.half; omega)
    omega
theorem Gs.less (g : Gs W v m top next head w2) {G l : Nat} (hl : G * top + l = head) (hq : W / v ≤ G) (h : 4294967296 ≤ G ∨ l * 4294967296 + w2 < G * next) : W / v < G := by
  rcases Nat.lt_or_ge (W / v) G with h1 | h1
  · exact h1
  · have e : W / v = G := by omega
    have h2 := g.qlt
    have h3 := g.qd
    rw [e, Nat.mul_add, ← Nat.mul_assoc] at h3
    rcases h with h | h
    · omega
    · generalize G * top = a at *
      generalize G * next = b at *
      omega
theorem Gs.done (g : Gs W v m top next head w2) {G l : Nat} (hl : G * top + l = head) (hG : G ≤ 4294967296) (hq : W / v ≤ G) (h : 4294967296 ≤ l ∨ G * next ≤ l * 4294967296 + w2) : W / v = G ∨ W / v + 1 = G := by
  have hn : G * next ≤ l * 4294967296 + w2 := by
    rcases h with h | h
    · have h1 : G * next ≤ 4294967296 * 4294967295 := Nat.mul_le_mul hG (by have := g.n1; omega)
      omega
    · exact h
  refine Nt.guess_end g.pos hq ?_
  rcases Nat.eq_zero_or_pos G with h0 | h0
  · exact .inl h0
  · right
    have he : 0 < 4294967296 ^ (m - 2) := Nat.pow_pos (by omega)
    refine Nt.guess_ge (d2 := top * 4294967296 + next) (u3 := head * 4294967296 + w2) (e := 4294967296 ^ (m - 2)) ?_ ?_ ?_ ?_ g.pos h0
    · rw [Nat.mul_add, ← Nat.mul_assoc]
      generalize G * top = a at *
      generalize G * next = b at *
      omega
    · rw [← g.w3]; exact Nat.div_mul_le_self _ _
    · rw [← g.v2]
      have h2 := Nat.lt_mul_div_succ v he
      rw [Nat.mul_comm]; omega
    · refine Nat.le_trans (Nat.mul_le_mul_right _ hG) ?_
      have h3 : 4294967296 * 4294967296 ^ (m - 2) = 4294967296 ^ (m - 1) := by
        rw [Nat.mul_comm, ← Nat.pow_succ, show (m - 2).succ = m - 1 by have := g.hm; omega]
      rw [h3]; exact g.big
theorem norm_top {y m s : Nat} (hm : 0 < m) (hy : Fit32 y m) (h1 : 2 ^ s * d32 y (m - 1) < 4294967296) (h2 : 2147483648 ≤ 2 ^ s * d32 y (m - 1)) (hs : s ≤ 31) :
    Fit32 (2 ^ s * y) m ∧ 4294967296 ≤ 2 * d32 (2 ^ s * y) (m - 1) ∧ 4294967296 ^ (m - 1) ≤ 2 ^ s * y := by
  have he : 0 < 4294967296 ^ (m - 1) := Nat.pow_pos (by omega)
  have hB : 4294967296 ^ m = 4294967296 * 4294967296 ^ (m - 1) := by rw [Nat.mul_comm, ← Nat.pow_succ, show (m - 1).succ = m by omega]
  have hyt : d32 y (m - 1) = y / 4294967296 ^ (m - 1) := by
    unfold d32 Nt.dig
    refine Nat.mod_eq_of_lt ((Nat.div_lt_iff_lt_mul he).2 ?_)
    rw [← hB]; exact hy
  have h3 : 2 ^ s * 2 ^ (32 - s) = 4294967296 := by rw [← Nat.pow_add, show s + (32 - s) = 32 by omega]
  have h4 : d32 y (m - 1) < 2 ^ (32 - s) := by
    rw [← h3] at h1
    exact Nat.lt_of_mul_lt_mul_left h1
  have h5 : 2 ^ s * (d32 y (m - 1) + 1) ≤ 4294967296 := by rw [← h3]; exact Nat.mul_le_mul_left _ h4
  have h6 : y < (d32 y (m - 1) + 1) * 4294967296 ^ (m - 1) := by
    rw [hyt, Nat.mul_comm]; exact Nat.lt_mul_div_succ y he
  have h7 : d32 y (m - 1) * 4294967296 ^ (m - 1) ≤ y := by rw [hyt]; exact Nat.div_mul_le_self _ _
  have hfit : 2 ^ s * y < 4294967296 ^ m := by
    rw [hB]
    refine Nat.lt_of_lt_of_le (Nat.mul_lt_mul_of_pos_left h6 (Nat.pow_pos (by omega))) ?_
    rw [← Nat.mul_assoc]
    exact Nat.mul_le_mul_right _ h5
  have h8 : 2 ^ s * d32 y (m - 1) * 4294967296 ^ (m - 1) ≤ 2 ^ s * y := by rw [Nat.mul_assoc]; exact Nat.mul_le_mul_left _ h7
  have h9 : d32 (2 ^ s * y) (m - 1) = 2 ^ s * y / 4294967296 ^ (m - 1) := by
    unfold d32 Nt.dig
    refine Nat.mod_eq_of_lt ((Nat.div_lt_iff_lt_mul he).2 ?_)
    rw [← hB]; exact hfit
  have h10 : 2 ^ s * d32 y (m - 1) ≤ 2 ^ s * y / 4294967296 ^ (m - 1) := (Nat.le_div_iff_mul_le he).2 h8
  refine ⟨hfit, by rw [h9]; omega, Nat.le_trans ?_ h8⟩
  exact Nat.le_mul_of_pos_left _ (by omega)
theorem long_start {x y n m s : Nat} (hx : Fit32 x n) (hmn : m ≤ n) (hm : 0 < m) (hy : 4294967296 ^ (m - 1) ≤ y) : 2 ^ s * x / 4294967296 ^ (n - m + 1) < 2 ^ s * y := by
  refine (Nat.div_lt_iff_lt_mul (Nat.pow_pos (by omega))).2 ?_
  rw [Nat.mul_assoc]
  refine Nat.mul_lt_mul_of_pos_left (Nat.lt_of_lt_of_le hx ?_) (Nat.pow_pos (by omega))
  have : 4294967296 ^ n = 4294967296 ^ (m - 1) * 4294967296 ^ (n - m + 1) := by rw [← Nat.pow_add, show m - 1 + (n - m + 1) = n by omega]
  rw [this]
  exact Nat.mul_le_mul_right _ hy
theorem len_big {y m : Nat} (hm : 0 < m) (h : m = L32 y) : 4294967296 ^ (m - 1) ≤ y := by
  have h0 : 0 < y := by
    rcases Nat.eq_zero_or_pos y with e | e
    · rw [e] at h; have := L32_zero.2 (rfl : (0 : Nat) = 0); omega
    · exact e
  have := Nt.pow_len_le (b := 4294967296) (by omega) y h0
  rw [h]; exact this
end Go.Proofs.Yteclghokkdkolaa
