/- What Pay returns is exact, in plain Lean; and what is spoilt is not. -/
import Derived.Test.YtjifpiaianmmbaaPayExact
import Derived.Test.YtjifpiaianmmbaaDebtFacts
set_option linter.unusedVariables false
namespace Go.Proofs.Ytjifpiaianmmbaa
namespace Ex
theorem vv_all {g t : Int} {O : Nat → Int} (hg : ok g = true) (ht : ok t = true) : ∀ {n : Nat}, (∀ k, k < n → ok (O k) = true) → vv g t O n = true := by
  intro n
  induction n with
  | zero => intro _; simp only [vv, hg, ht]; rfl
  | succ n ih =>
    intro h
    simp only [vv]
    rw [ih (fun k hk => h k (by omega)), h n (by omega)]; rfl
theorem sv_all {t : Int} {O : Nat → Int} (ht : ok t = true) : ∀ {n : Nat}, (∀ k, k < n → ok (O k) = true) → sv t O n = t + Db.gsum O n := by
  intro n
  induction n with
  | zero => intro _; simp only [sv]; rw [if_pos ht]; simp [Db.gsum]
  | succ n ih =>
    intro h
    simp only [sv]
    rw [if_pos (h n (by omega)), ih (fun k hk => h k (by omega)), Db.gsum_next]; omega
/-- What Pay returns is exact. -/
theorem exact_pay {C : Nat → ByteArray} {K A : Nat → Int} {m : Nat} {g t : Int} (h : Db.chk C K A m = 0) (g0 : 0 ≤ g) (g1 : g ≤ 1000000000000) (t0 : 0 ≤ t) (t1 : t ≤ g) :
    exact g t m (Db.get A (g - t)) (Db.left A (g - t) m) = true := by
  have hA : ∀ i, i < m → 1 ≤ A i := fun i hi => (Db.ok_in h hi).2.2.1
  have hO : ∀ k, k < m → ok (Db.get A (g - t) k) = true := fun k hk => by
    have := Db.get_bounds (a := g - t) (by omega) hA hk
    exact ok_yes (by omega) (by omega)
  have hl := Db.left_bounds (a := g - t) (by omega) hA m (Nat.le_refl _)
  have ht := ok_yes (x := t) t0 (by omega)
  rw [exact_good (Db.of_chk h).1 (by rw [vv_all (ok_yes g0 g1) ht hO, ok_yes (by omega) (by omega)]; rfl), sv_all ht hO, Db.gsum_get]
  simp; omega
/-- Another gross, tax or net amount is not exact. -/
theorem exact_sum {g t : Int} {n : Nat} {O : Nat → Int} {l : Int} (h : exact g t n O l = true) : ok t = true ∧ (∀ k, k < n → ok (O k) = true) ∧ t + Db.gsum O n + l = g := by
  unfold exact at h
  simp only [Bool.and_eq_true, beq_iff_eq] at h
  obtain ⟨⟨_, hv, _⟩, hs⟩ := h
  obtain ⟨_, ht, hO⟩ := vv_of hv
  rw [sv_all ht hO] at hs
  exact ⟨ht, hO, hs⟩
theorem exact_not {g t g' t' : Int} {n : Nat} {O : Nat → Int} {l l' : Int} (h : exact g t n O l = true) (hd : g' - t' - l' ≠ g - t - l) : exact g' t' n O l' = false := by
  cases e : exact g' t' n O l' with
  | false => rfl
  | true =>
    have h1 := (exact_sum h).2.2
    have h2 := (exact_sum e).2.2
    omega
end Ex
end Go.Proofs.Ytjifpiaianmmbaa
