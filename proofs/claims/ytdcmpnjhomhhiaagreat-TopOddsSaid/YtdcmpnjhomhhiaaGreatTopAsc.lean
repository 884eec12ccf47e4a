/- Plain facts of the lines of a tiny game. -/
import Derived.Test.YtdcmpnjhomhhiaaGreatTopTiny
set_option linter.unusedVariables false
namespace Go.Proofs.YtdcmpnjhomhhiaaGreat
open Go.RowKit Fr Fa
namespace Tp
/-- The lines. -/
def fm (n m c b i : Nat) : Nat → Nat := fun j => (ur n m (i / cz c (b : Int)) n).2.getD j 0
def gm (c b i : Nat) : Nat → Nat := fun j => (ur c b (i % cz c (b : Int)) c).2.getD j 0
/-- The tier of line i for result d. -/
def tr (n m c b i d : Nat) : Option Nat := first (tP m b) (tQ b) (cm (fm n m c b i) (fm n m c b d) m m) (cm (gm c b i) (gm c b d) b b) (nT m b)
def cnts (n m c b d t : Nat) : Nat → Nat
  | 0 => 0
  | i + 1 => cnts n m c b d t i + if tr n m c b i d = some t then 1 else 0
def NL (n m c b : Nat) : Nat := cz n (m : Int) * cz c (b : Int)
def WN (t m n x b c : Nat) : Nat := sW (ta (tP m b) (tQ b) (nT m b) t m n x b c) (b + 1) (x + 1) (m + 1)
set_option maxRecDepth 100000
def ascB (f : Nat → Nat) (k M : Nat) : Bool := (List.range k).all fun j => decide (1 ≤ f j) && decide (f j ≤ M) && (j == 0 || decide (f (j - 1) < f j))
theorem ascB_asc {f : Nat → Nat} {k M : Nat} (h : ascB f k M = true) : Asc f k M := fun j hj => by
  have h1 := List.all_eq_true.1 h j (List.mem_range.2 hj)
  simp only [Bool.and_eq_true, decide_eq_true_eq, Bool.or_eq_true, beq_iff_eq] at h1
  exact ⟨h1.1.1, h1.1.2, fun h0 => by rcases h1.2 with h2 | h2; · omega
                                      · exact h2⟩
theorem asc_all : ∀ n, n < 8 → ∀ k, k < 4 → k ≤ n → ∀ r, r < cb n k → ascB (fun j => (ur n k r n).2.getD j 0) k n = true := by decide +kernel
theorem free_all : ∀ n, n < 8 → ∀ k, k < 4 → k < n → ∀ r, r < cb n k → (List.range (n + 1)).any (fun v => decide (1 ≤ v) && !hs (fun j => (ur n k r n).2.getD j 0) v k) = true := by decide +kernel
theorem cz_cb {n k : Nat} (h : k ≤ n) : cz n (k : Int) = cb n k := cz_pos h
theorem line_of {m n b c i : Nat} (hm : m ≤ 3) (hn0 : m + 1 ≤ n) (hn : n ≤ 7) (hb : b = 0 ∧ c = 0 ∨ b = 1 ∧ 1 ≤ c ∧ c ≤ 3) (hi : i < NL n m c b) : Asc (fm n m c b i) m n ∧ Asc (gm c b i) b c ∧ ∃ v, v < n + 1 ∧ (1 ≤ v ∧ hs (fm n m c b i) v m = false) := by
  unfold NL at hi
  have hB0 : 0 < cz c (b : Int) := by
    rcases Nat.eq_zero_or_pos (cz c (b : Int)) with h | h
    · rw [h] at hi; omega
    · exact h
  have h1 : i / cz c (b : Int) < cb n m := by
    rw [← cz_cb (by omega)]
    exact Nat.div_lt_of_lt_mul (by rw [Nat.mul_comm]; exact hi)
  have h2 : i % cz c (b : Int) < cb c b := by
    have := Nat.mod_lt i hB0
    rw [cz_cb (show b ≤ c by omega)] at this ⊢
    exact this
  have a1 := asc_all n (by omega) m (by omega) (by omega) _ h1
  have a2 := asc_all c (by omega) b (by omega) (by omega) _ h2
  have a3 := free_all n (by omega) m (by omega) (by omega) _ h1
  obtain ⟨v, hv, hp⟩ := List.any_eq_true.1 a3
  rw [Bool.and_eq_true, decide_eq_true_eq, Bool.not_eq_true'] at hp
  exact ⟨ascB_asc a1, ascB_asc a2, v, List.mem_range.1 hv, hp.1, hp.2⟩
theorem first_lt {P Q : Nat → Nat} {a d i : Nat} : ∀ {T}, first P Q a d T = some i → i < T
  | 0, h => by cases h
  | T + 1, h => by
    rw [first] at h
    cases e : first P Q a d T with
    | some j =>
      rw [e] at h
      injection h with h
      have := first_lt e
      omega
    | none =>
      rw [e] at h
      simp only at h
      split at h
      · injection h with h; omega
      · cases h
theorem cnts_le {n m c b d t : Nat} : ∀ i, cnts n m c b d t i ≤ i
  | 0 => Nat.le_refl _
  | i + 1 => by have := cnts_le (n := n) (m := m) (c := c) (b := b) (d := d) (t := t) i; rw [cnts]; split <;> omega
theorem NL_le {m n b c : Nat} (hm : m ≤ 3) (hn : n ≤ 7) (hb : b ≤ 1) (hc : c ≤ 3) : NL n m c b ≤ 10000 := by
  unfold NL
  have h1 := cz_tiny (n := n) (m := m) hn hm
  have h2 := cz_tiny (n := c) (m := b) (by omega) (by omega)
  exact Nat.le_trans (Nat.mul_le_mul (Nat.le_of_lt h1) (Nat.le_of_lt h2)) (by omega)
theorem NL_pos {m n b c : Nat} (hm : m ≤ 3) (hn0 : m ≤ n) (hn : n ≤ 7) (hb : b = 0 ∧ c = 0 ∨ b = 1 ∧ 1 ≤ c ∧ c ≤ 3) : 1 ≤ NL n m c b := by
  have h : ∀ n, n < 8 → ∀ k, k < 4 → k ≤ n → 1 ≤ cb n k := by decide +kernel
  unfold NL
  rw [cz_cb hn0, cz_cb (show b ≤ c by omega)]
  exact Nat.mul_le_mul (h n (by omega) m (by omega) hn0) (h c (by omega) b (by omega) (by omega))
end Tp
end Go.Proofs.YtdcmpnjhomhhiaaGreat
