/- A prize that is paid or has expired: what the claims read as behind it. -/
import Derived.Test.YtpalmlcepppifaaClmCheck
import Derived.Laws.OwnMore
set_option linter.unusedVariables false
namespace Go.Proofs.Ytpalmlcepppifaa
open Go.RowKit Go.Maps Go.ChangeShapes Go.WideElems Go.WideMaps

theorem row_set {A F E S : Nat → Int} {n m : Nat} {y : Int} (hm : m < n) : (row (n * 4) (Four A F E S)).set (m * 4 + 3) (.int .i64 y) = row (n * 4) (Four A F E (upd S m y)) := by
  apply List.ext_getElem?
  intro i
  by_cases hi : i < n * 4
  · rw [row_get hi]
    by_cases e : m * 4 + 3 = i
    · subst e
      rw [List.getElem?_set_self (by rw [row_length]; exact hi), (Four_at A F E (upd S m y) m).2.2.2, upd_same]
    · rw [List.getElem?_set_ne e, row_get hi]
      unfold Four
      by_cases e3 : i % 4 = 3
      · rw [if_neg (by omega), if_neg (by omega), if_neg (by omega), if_neg (by omega), if_neg (by omega), if_neg (by omega), upd_ne S y (by omega)]
      · by_cases e0 : i % 4 = 0
        · rw [if_pos e0, if_pos e0]
        · rw [if_neg e0, if_neg e0]
          by_cases e1 : i % 4 = 1
          · rw [if_pos e1, if_pos e1]
          · rw [if_neg e1, if_neg e1, if_pos (by omega), if_pos (by omega)]
  · rw [List.getElem?_eq_none (by rw [List.length_set, row_length]; omega), List.getElem?_eq_none (by rw [row_length]; omega)]
theorem cnt_upd {S : Nat → Int} {m : Nat} {y : Int} (h0 : S m = 0) (hy : y ≠ 0) : ∀ {n : Nat}, m < n → cnt (upd S m y) n + 1 = cnt S n := by
  intro n
  induction n with
  | zero => intro h; omega
  | succ n ih =>
    intro h
    simp only [cnt]
    by_cases e : n = m
    · subst e
      rw [upd_same, if_neg hy, if_pos h0, cnt_congr (S := upd S n y) (S' := S) fun i hi => upd_ne _ _ (by omega)]
    · have := ih (by omega)
      rw [upd_ne _ _ e]
      split <;> omega

/-- The store of a prize's state: what is known before the map of the open ones follows. -/
theorem Cl.stored {B : Nat} {w : World} {h n m g cap : Nat} {N : Nat → ByteArray} {A F E S : Nat → Int} {b1 b2 : Nat} {D O : DataW Unit} (c : Cl B w h n N A F E S (.slice (some ⟨g, 0, none⟩) n cap) b1 b2 D O) (y : Int) :
    (w.setCell ⟨g, m * 4 + 3, none⟩ (.int .i64 y)).ownsMap Try.prog 3 (plainElem Try.prog 4) b2 n O ∧ g ≠ h := by
  have hg := (c.own.stored (m * 4 + 3) (.int .i64 y)).2
  refine ⟨c.opn.kept hg (fun e => ?_), fun e => c.pvh (by rw [← e]; rfl)⟩
  injection e with e
  obtain ⟨cur, hc⟩ := own_obj c.own (g := g) rfl
  obtain ⟨es, ck, hb⟩ := opn_block c.opn
  exact ne_obj hb hc cells_map.symm e
theorem Cl.mark {B : Nat} {w w2 : World} {h n m g cap : Nat} {N : Nat → ByteArray} {A F E S : Nat → Int} {b1 b2 : Nat} {D O : DataW Unit} {y : Int} (c : Cl B w h n N A F E S (.slice (some ⟨g, 0, none⟩) n cap) b1 b2 D O)
    (hm : m < n) (h0 : S m = 0) (hy : y ≠ 0) (hBw : B ≤ w.heap.size)
    (hd : w2.ownsMap Try.prog 3 (plainElem Try.prog 4) b2 n (O.del (.int .i64 m))) (ht : (w.setCell ⟨g, m * 4 + 3, none⟩ (.int .i64 y)).mapTurned w2 b2) :
    Cl B w2 h n N A F E (upd S m y) (.slice (some ⟨g, 0, none⟩) n cap) b1 b2 D (O.del (.int .i64 m)) ∧ Below B w w2 ∧ Kp w w2 := by
  have hg := (c.own.stored (m * 4 + 3) (.int .i64 y)).2
  obtain ⟨hopn1, hgh⟩ := c.stored (m := m) y
  have hown1 := (c.own.stored (m * 4 + 3) (.int .i64 y)).1
  rw [row_set hm] at hown1
  obtain ⟨cur, hc⟩ := own_obj c.own (g := g) rfl
  have hblk1 := c.blk.grown hg (fun e => by injection e with e; exact hgh e.symm)
  have hgrp1 := grp_keep c.grp hg (fun k hk => by
    injection hk with hk; subst hk
    obtain ⟨es, ck, hb⟩ := map_block c.grp
    exact ⟨(fun cur' h' => by rw [hc] at h'; injection h' with h'; injection h' with _ h'; revert h'; decide), ne_obj hb hc cells_map.symm⟩)
  have hg2 := ht.grown
  obtain ⟨es1, ck1, hb1⟩ := opn_block hopn1
  have hblk2 := hblk1.grown hg2 (fun e => by injection e with e; exact ne_obj hblk1 hb1 cells_map e)
  have hown2 := hown1.kept hg2 (.inr fun e => by
    obtain ⟨cur1, hc1⟩ := own_obj hown1 e
    exact ne_obj hb1 hc1 cells_map.symm rfl)
  have hgrp2 := grp_keep hgrp1 hg2 (fun k hk => by
    injection hk with hk; subst hk
    exact ⟨(fun cur' h' => by rw [hb1] at h'; cases h'), c.ne⟩)
  have hgB : B ≤ g := (c.own.lt g rfl).1
  have hB1 : Below B w (w.setCell ⟨g, m * 4 + 3, none⟩ (.int .i64 y)) := (Below.refl B w).setCell (p := ⟨g, m * 4 + 3, none⟩) hgB _
  refine ⟨⟨hblk2, hown2, hgrp2, hd, fun i hi => ?_, ?_, c.hD, c.hB, c.hB1, c.hB2, c.ne, c.n8, c.st⟩, hB1.grown hg2 (Nat.le_trans hBw hB1.size) (fun k hk => by injection hk with hk; have := c.hB2; omega), ?_⟩
  · by_cases e : i = m
    · subst e
      rw [has_del_same, upd_same]; simp [hy]
    · rw [has_del_other (by intro e2; injection e2 with _ e2; omega), c.hO i hi, upd_ne _ _ e]
  · have h1 := size_del (c.opn.tidy kI) (k := .int .i64 m)
    rw [c.hO m (by have := c.n8; omega), decide_eq_true hm, decide_eq_true h0] at h1
    have h2 := cnt_upd (y := y) h0 hy hm
    have h3 := c.hsz
    simp at h1
    omega
  · refine (Kp.only hg fun j hj cs t hb => ?_).trans (Kp.only hg2 fun j hj cs t hb => ?_)
    · injection hj with hj; subst hj
      rw [hc] at hb; injection hb with hb; injection hb with _ hb; exact .inr (.inl hb.symm)
    · injection hj with hj; subst hj
      rw [hb1] at hb; cases hb

namespace Cm
/-- The states behind a claim of the prizes of a list. -/
def payS (F E S : Nat → Int) (at_ : Int) (l : List Nat) : Nat → Int := fun i => if i ∈ l ∧ can F E S at_ i = true then 1 else S i
theorem payS_nil (F E S : Nat → Int) (at_ : Int) : payS F E S at_ [] = S := by
  funext i; unfold payS; rw [if_neg (by simp)]
theorem payS_yes {F E S : Nat → Int} {at_ : Int} {l : List Nat} {m : Nat} (h : can F E S at_ m = true) : payS F E S at_ (l ++ [m]) = upd (payS F E S at_ l) m 1 := by
  funext i
  unfold upd payS
  by_cases e : i = m
  · subst e; rw [if_pos ⟨by simp, h⟩, if_pos rfl]
  · rw [if_neg e]
    by_cases c : i ∈ l ∧ can F E S at_ i = true
    · rw [if_pos c, if_pos ⟨by simp [c.1], c.2⟩]
    · rw [if_neg c, if_neg]
      rintro ⟨h1, h2⟩
      rcases List.mem_append.1 h1 with h1 | h1
      · exact c ⟨h1, h2⟩
      · exact e (by simpa using h1)
theorem payS_no {F E S : Nat → Int} {at_ : Int} {l : List Nat} {m : Nat} (h : can F E S at_ m = false) : payS F E S at_ (l ++ [m]) = payS F E S at_ l := by
  funext i
  unfold payS
  by_cases c : i ∈ l ∧ can F E S at_ i = true
  · rw [if_pos c, if_pos ⟨by simp [c.1], c.2⟩]
  · rw [if_neg c, if_neg]
    rintro ⟨h1, h2⟩
    rcases List.mem_append.1 h1 with h1 | h1
    · exact c ⟨h1, h2⟩
    · simp at h1; subst h1; rw [h] at h2; cases h2
theorem payS_out {F E S : Nat → Int} {at_ : Int} {l : List Nat} {m : Nat} (h : m ∉ l) : payS F E S at_ l m = S m := by
  unfold payS; rw [if_neg (fun c => h c.1)]
/-- The states behind Expire of the first k prizes, and what has expired. -/
def old (E S : Nat → Int) (at_ : Int) (i : Nat) : Bool := decide (S i = 0) && decide (E i < at_)
def oldS (E S : Nat → Int) (at_ : Int) (k : Nat) : Nat → Int := fun i => if i < k ∧ old E S at_ i = true then 2 else S i
def osum (A E S : Nat → Int) (at_ : Int) : Nat → Int
  | 0 => 0
  | k + 1 => osum A E S at_ k + if old E S at_ k = true then A k else 0
theorem oldS_zero (E S : Nat → Int) (at_ : Int) : oldS E S at_ 0 = S := by funext i; unfold oldS; rw [if_neg (by omega)]
theorem oldS_at (E S : Nat → Int) (at_ : Int) (k : Nat) : oldS E S at_ k k = S k := by unfold oldS; rw [if_neg (by omega)]
theorem oldS_yes {E S : Nat → Int} {at_ : Int} {k : Nat} (h : old E S at_ k = true) : oldS E S at_ (k + 1) = upd (oldS E S at_ k) k 2 := by
  funext i
  unfold upd oldS
  by_cases e : i = k
  · subst e; rw [if_pos ⟨by omega, h⟩, if_pos rfl]
  · rw [if_neg e]
    by_cases c : i < k ∧ old E S at_ i = true
    · rw [if_pos c, if_pos ⟨by omega, c.2⟩]
    · rw [if_neg c, if_neg (by rintro ⟨h1, h2⟩; exact c ⟨by omega, h2⟩)]
theorem oldS_no {E S : Nat → Int} {at_ : Int} {k : Nat} (h : old E S at_ k = false) : oldS E S at_ (k + 1) = oldS E S at_ k := by
  funext i
  unfold oldS
  by_cases c : i < k ∧ old E S at_ i = true
  · rw [if_pos c, if_pos ⟨by omega, c.2⟩]
  · rw [if_neg c, if_neg]
    rintro ⟨h1, h2⟩
    by_cases e : i = k
    · subst e; rw [h] at h2; cases h2
    · exact c ⟨by omega, h2⟩
/-- The sum of the prizes in a state. -/
def psum (A S : Nat → Int) (y : Int) : Nat → Int
  | 0 => 0
  | k + 1 => psum A S y k + if S k = y then A k else 0
theorem psum_bd {A S : Nat → Int} {y : Int} : ∀ {k : Nat}, (∀ i, i < k → 1 ≤ A i ∧ A i ≤ 1000000000000) → 0 ≤ psum A S y k ∧ psum A S y k ≤ k * 1000000000000 := by
  intro k
  induction k with
  | zero => intro _; simp [psum]
  | succ k ih =>
    intro h
    have h1 := ih (fun i hi => h i (by omega))
    have h2 := h k (by omega)
    simp only [psum]
    split <;> omega
theorem osum_bd {A E S : Nat → Int} {at_ : Int} : ∀ {k : Nat}, (∀ i, i < k → 1 ≤ A i ∧ A i ≤ 1000000000000) → 0 ≤ osum A E S at_ k ∧ osum A E S at_ k ≤ k * 1000000000000 := by
  intro k
  induction k with
  | zero => intro _; simp [osum]
  | succ k ih =>
    intro h
    have h1 := ih (fun i hi => h i (by omega))
    have h2 := h k (by omega)
    simp only [osum]
    split <;> omega
end Cm
theorem idx_sorted (N : Nat → ByteArray) (s : ByteArray) (n : Nat) : (idx N s n).Pairwise (· < ·) := by
  induction n with
  | zero => exact List.Pairwise.nil
  | succ n ih =>
    simp only [idx]
    split
    · exact List.pairwise_append.2 ⟨ih, List.pairwise_singleton _ _, fun a ha b hb => by
        simp at hb; subst hb; exact idx_lt ha⟩
    · exact ih
theorem not_before {l : List Nat} (h : l.Pairwise (· < ·)) {j : Nat} (hj : j < l.length) : l[j] ∉ l.take j := fun hm => by
  have h1 : (l.take (j + 1)).Pairwise (· < ·) := h.sublist (List.take_sublist _ _)
  rw [take_next hj] at h1
  have := (List.pairwise_append.1 h1).2.2 _ hm l[j] (by simp)
  omega
end Go.Proofs.Ytpalmlcepppifaa
