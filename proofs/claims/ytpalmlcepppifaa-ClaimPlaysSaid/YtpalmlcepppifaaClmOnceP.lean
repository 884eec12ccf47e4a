/- The sums of claims in plain Lean. -/
import Derived.Test.YtpalmlcepppifaaClmOpens
set_option linter.unusedVariables false
namespace Go.Proofs.Ytpalmlcepppifaa
open Go.RowKit Go.Maps Go.ChangeShapes Go.WideElems Go.WideMaps
namespace Cm
theorem psum_congr {A A' S S' : Nat → Int} {y : Int} : ∀ {n : Nat}, (∀ i, i < n → A i = A' i ∧ S i = S' i) → psum A S y n = psum A' S' y n := by
  intro n
  induction n with
  | zero => intro _; rfl
  | succ n ih =>
    intro h
    simp only [psum]
    rw [ih (fun i hi => h i (by omega)), (h n (by omega)).1, (h n (by omega)).2]
/-- One more open prize. -/
theorem psum_add {A S : Nat → Int} {y a : Int} {n : Nat} : psum (upd A n a) (upd S n 0) y (n + 1) = psum A S y n + if 0 = y then a else 0 := by
  simp only [psum]
  rw [psum_congr (A' := A) (S' := S) fun i hi => ⟨upd_ne _ _ (by omega), upd_ne _ _ (by omega)⟩, upd_same, upd_same]
theorem mem_idx {N : Nat → ByteArray} {s : ByteArray} {n i : Nat} : i ∈ idx N s n ↔ i < n ∧ (N i).data.toList = s.data.toList := by
  induction n with
  | zero => simp [idx]
  | succ n ih =>
    simp only [idx]
    split
    · rename_i e
      rw [List.mem_append, ih]
      constructor
      · rintro (h | h)
        · exact ⟨by omega, h.2⟩
        · simp at h; subst h; exact ⟨by omega, e⟩
      · rintro ⟨h1, h2⟩
        by_cases h : i = n
        · exact .inr (by simp [h])
        · exact .inl ⟨by omega, h2⟩
    · rename_i e
      rw [ih]
      constructor
      · rintro ⟨h1, h2⟩; exact ⟨by omega, h2⟩
      · rintro ⟨h1, h2⟩
        by_cases h : i = n
        · subst h; exact absurd h2 e
        · exact ⟨by omega, h2⟩
section
variable {A F E S : Nat → Int} {N : Nat → ByteArray} {s : ByteArray} {at_ : Int} {n : Nat}
theorem lsum_idx (k : Nat) : lsum (can F E S at_) A (idx N s (k + 1)) = lsum (can F E S at_) A (idx N s k) + if (N k).data.toList = s.data.toList ∧ can F E S at_ k = true then A k else 0 := by
  simp only [idx]
  by_cases e : (N k).data.toList = s.data.toList
  · rw [if_pos e, lsum_snoc]
    by_cases c : can F E S at_ k = true
    · rw [if_pos c, if_pos ⟨e, c⟩]
    · rw [if_neg c, if_neg (by rintro ⟨_, h⟩; exact c h)]
  · rw [if_neg e, if_neg (by rintro ⟨h, _⟩; exact e h), Int.add_zero]
theorem pay_at {k : Nat} (hk : k < n) : payS F E S at_ (idx N s n) k = if (N k).data.toList = s.data.toList ∧ can F E S at_ k = true then 1 else S k := by
  unfold payS
  by_cases c : (N k).data.toList = s.data.toList ∧ can F E S at_ k = true
  · rw [if_pos c, if_pos ⟨mem_idx.2 ⟨hk, c.1⟩, c.2⟩]
  · rw [if_neg c, if_neg (by rintro ⟨h1, h2⟩; exact c ⟨(mem_idx.1 h1).2, h2⟩)]
theorem can_open {k : Nat} (h : can F E S at_ k = true) : S k = 0 := by
  unfold can at h; simp at h; exact h.1.1
theorem psum_pay (k : Nat) (hk : k ≤ n) : psum A (payS F E S at_ (idx N s n)) 0 k = psum A S 0 k - lsum (can F E S at_) A (idx N s k) ∧
    psum A (payS F E S at_ (idx N s n)) 1 k = psum A S 1 k + lsum (can F E S at_) A (idx N s k) ∧ psum A (payS F E S at_ (idx N s n)) 2 k = psum A S 2 k := by
  induction k with
  | zero => simp [psum, idx, lsum]
  | succ k ih =>
    obtain ⟨h0, h1, h2⟩ := ih (by omega)
    simp only [psum]
    rw [h0, h1, h2, lsum_idx, pay_at (by omega)]
    by_cases c : (N k).data.toList = s.data.toList ∧ can F E S at_ k = true
    · have := can_open c.2
      rw [if_pos c, if_pos c, this]
      rw [if_neg (show ¬ (1 : Int) = 0 by decide), if_pos (show (0 : Int) = 0 from rfl), if_pos (show (1 : Int) = 1 from rfl), if_neg (show ¬ (0 : Int) = 1 by decide), if_neg (show ¬ (1 : Int) = 2 by decide), if_neg (show ¬ (0 : Int) = 2 by decide)]
      refine ⟨?_, ?_, ?_⟩ <;> omega
    · rw [if_neg c, if_neg c]
      generalize (if S k = 0 then A k else 0) = z0
      generalize (if S k = 1 then A k else 0) = z1
      generalize (if S k = 2 then A k else 0) = z2
      refine ⟨?_, ?_, ?_⟩ <;> omega
theorem psum_old (k : Nat) : psum A (oldS E S at_ k) 0 k = psum A S 0 k - osum A E S at_ k ∧ psum A (oldS E S at_ k) 1 k = psum A S 1 k ∧ psum A (oldS E S at_ k) 2 k = psum A S 2 k + osum A E S at_ k := by
  induction k with
  | zero => simp [psum, osum]
  | succ k ih =>
    obtain ⟨h0, h1, h2⟩ := ih
    simp only [psum, osum]
    have hc : ∀ y, psum A (oldS E S at_ (k + 1)) y k = psum A (oldS E S at_ k) y k := fun y => psum_congr fun i hi => ⟨rfl, by
      unfold oldS
      by_cases c : old E S at_ i = true
      · rw [if_pos ⟨by omega, c⟩, if_pos ⟨by omega, c⟩]
      · rw [if_neg (fun h => c h.2), if_neg (fun h => c h.2)]⟩
    rw [hc, hc, hc, h0, h1, h2]
    by_cases c : old E S at_ k = true
    · have hS : S k = 0 := by unfold old at c; simp at c; exact c.1
      have hv : oldS E S at_ (k + 1) k = 2 := by unfold oldS; rw [if_pos ⟨by omega, c⟩]
      rw [hv, hS, if_pos c]
      rw [if_neg (show ¬ (2 : Int) = 0 by decide), if_pos (show (0 : Int) = 0 from rfl), if_neg (show ¬ (2 : Int) = 1 by decide), if_neg (show ¬ (0 : Int) = 1 by decide), if_pos (show (2 : Int) = 2 from rfl), if_neg (show ¬ (0 : Int) = 2 by decide)]
      refine ⟨?_, ?_, ?_⟩ <;> omega
    · have hv : oldS E S at_ (k + 1) k = S k := by unfold oldS; rw [if_neg (fun h => c h.2)]
      rw [hv, if_neg c]
      refine ⟨?_, ?_, ?_⟩ <;> omega
/-- Nothing is open exactly where the open ones sum to nothing. -/
theorem cnt_zero (hA : ∀ i, i < n → 1 ≤ A i ∧ A i ≤ 1000000000000) : (cnt S n = 0 ∧ psum A S 0 n = 0) ∨ (0 < cnt S n ∧ 0 < psum A S 0 n) := by
  induction n with
  | zero => left; exact ⟨rfl, rfl⟩
  | succ n ih =>
    have h := ih (fun i hi => hA i (by omega))
    have h1 := hA n (by omega)
    have h2 := psum_bd (S := S) (y := 0) (k := n) (fun i hi => hA i (by omega))
    simp only [cnt, psum]
    split <;> omega
end
end Cm
/-- The sums of a script: what was added is open, paid or expired. -/
structure Tot (A S : Nat → Int) (n k : Nat) (added paid old : Int) : Prop where
  ad : added = Cm.psum A S 0 n + Cm.psum A S 1 n + Cm.psum A S 2 n
  pa : paid = Cm.psum A S 1 n
  ol : old = Cm.psum A S 2 n
  am : ∀ i, i < n → 1 ≤ A i ∧ A i ≤ 1000000000000
  nk : n ≤ k
theorem Tot.add {A S : Nat → Int} {n k : Nat} {added paid old a : Int} (h : Tot A S n k added paid old) (a0 : 1 ≤ a) (a1 : a ≤ 1000000000000) : Tot (upd A n a) (upd S n 0) (n + 1) (k + 1) (added + a) paid old := by
  refine ⟨?_, ?_, ?_, fun i hi => ?_, by have := h.nk; omega⟩
  · rw [Cm.psum_add, Cm.psum_add, Cm.psum_add, h.ad]; simp; omega
  · rw [Cm.psum_add, h.pa]; simp
  · rw [Cm.psum_add, h.ol]; simp
  · by_cases e : i = n
    · subst e; rw [upd_same]; exact ⟨a0, a1⟩
    · rw [upd_ne _ _ e]; exact h.am i (by omega)
theorem Tot.claim {A F E S : Nat → Int} {N : Nat → ByteArray} {s : ByteArray} {n k : Nat} {added paid old at_ most : Int} (h : Tot A S n k added paid old) : Tot A (clS A F E S at_ most (idx N s n)) n (k + 1) added (paid + Cm.ckV A F E S at_ most (idx N s n)) old := by
  obtain ⟨p0, p1, p2⟩ := Cm.psum_pay (A := A) (F := F) (E := E) (S := S) (N := N) (s := s) (at_ := at_) n (Nat.le_refl n)
  have hk := h.nk
  by_cases e : Cm.ckE A F E S at_ most (idx N s n) = 0
  · have e1 : clS A F E S at_ most (idx N s n) = Cm.payS F E S at_ (idx N s n) := by unfold clS; rw [if_pos e]
    have e2 : Cm.ckV A F E S at_ most (idx N s n) = Cm.lsum (Cm.can F E S at_) A (idx N s n) := by unfold Cm.ckV; rw [if_pos e]
    rw [e1, e2]
    exact ⟨by rw [p0, p1, p2, h.ad]; omega, by rw [p1, h.pa], by rw [p2, h.ol], h.am, by omega⟩
  · have e1 : clS A F E S at_ most (idx N s n) = S := by unfold clS; rw [if_neg e]
    have e2 : Cm.ckV A F E S at_ most (idx N s n) = 0 := by unfold Cm.ckV; rw [if_neg e]
    rw [e1, e2, Int.add_zero]
    exact ⟨h.ad, h.pa, h.ol, h.am, by omega⟩
theorem Tot.expire {A E S : Nat → Int} {n k : Nat} {added paid old at_ : Int} (h : Tot A S n k added paid old) : Tot A (Cm.oldS E S at_ n) n (k + 1) added paid (old + Cm.osum A E S at_ n) := by
  obtain ⟨p0, p1, p2⟩ := Cm.psum_old (A := A) (E := E) (S := S) (at_ := at_) n
  have hk := h.nk
  exact ⟨by rw [p0, p1, p2, h.ad]; omega, by rw [p1, h.pa], by rw [p2, h.ol], h.am, by omega⟩
theorem Tot.more {A S : Nat → Int} {n k : Nat} {added paid old : Int} (h : Tot A S n k added paid old) : Tot A S n (k + 1) added paid old := ⟨h.ad, h.pa, h.ol, h.am, by have := h.nk; omega⟩
end Go.Proofs.Ytpalmlcepppifaa
