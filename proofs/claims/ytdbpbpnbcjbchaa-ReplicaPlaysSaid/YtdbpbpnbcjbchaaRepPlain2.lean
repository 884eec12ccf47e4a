/- What is committed, by counting. -/
import Derived.Test.YtdbpbpnbcjbchaaRepLawL
set_option linter.unusedVariables false
namespace Go.Proofs.Ytdbpbpnbcjbchaa
open Go.RowKit
namespace Rp
theorem com_self (l : Log) : com l l = l.length := by
  have h1 := com_ge l l l.length (Nat.le_refl _) (Nat.le_refl _) rfl
  have h2 := (com_le l l).1
  omega
theorem com_pre {a b : Log} (h : b <+: a) : com a b = b.length := by
  have h1 := com_ge a b b.length h.length_le (Nat.le_refl _) (by rw [List.take_length]; exact (List.prefix_iff_eq_take.1 h).symm)
  have h2 := (com_le a b).2
  omega
theorem top_zero {n : Nat} {s : St} {i : Nat} : ∀ M, (∀ m, s.done.length < m → m ≤ M → okm n s i m = false) → top n s i M = 0
  | 0, _ => rfl
  | M + 1, h => by
    by_cases h1 : s.done.length < M + 1
    · rw [top_no h1 (h _ h1 (Nat.le_refl _))]
      exact top_zero M fun m h2 h3 => h m h2 (by omega)
    · exact top_out h1
theorem okm_few {n : Nat} {s : St} {i m : Nat} (h : 2 * cnt (fun k => decide (m ≤ sm n s i k)) 7 ≤ n) : okm n s i m = false := by
  unfold okm
  rw [Bool.and_eq_false_iff]
  exact .inr (decide_eq_false (by omega))
theorem okm_many {n : Nat} {s : St} {i m : Nat} (he : ee (s.nd i).log (m - 1) = (s.nd i).ep) (h : n < 2 * cnt (fun k => decide (m ≤ sm n s i k)) 7) : okm n s i m = true := by
  unfold okm
  rw [decide_eq_true he, decide_eq_true h]; rfl
theorem upd_none {n : Nat} {s : St} {i : Nat} (h : top n s i (s.nd i).log.length = 0) : upd n s i = s := by unfold upd; rw [if_pos h]
theorem upd_all {n : Nat} {s : St} {i : Nat} (h1 : s.done.length < (s.nd i).log.length) (h2 : okm n s i (s.nd i).log.length = true) : upd n s i = ⟨s.nd, (s.nd i).log.map Prod.snd⟩ := by
  have e : top n s i (s.nd i).log.length = (s.nd i).log.length := by
    obtain ⟨m, hm⟩ : ∃ m, (s.nd i).log.length = m + 1 := ⟨(s.nd i).log.length - 1, by omega⟩
    rw [hm] at h1 h2 ⊢
    exact top_yes h1 h2
  unfold upd
  rw [e, if_neg (by omega), List.take_length]
/-- Of the nodes whose log has m entries, in the leader's epoch, there are too few. -/
theorem few {n : Nat} {s : St} {i m : Nat} (hm : 0 < m) (h : 2 * cnt (fun k => decide (k < n ∧ (s.nd k).ep = (s.nd i).ep ∧ m ≤ (s.nd k).log.length)) 7 ≤ n) : okm n s i m = false := by
  refine okm_few (Nat.le_trans (Nat.mul_le_mul_left 2 (cnt_mono fun k _ hk => ?_)) h)
  have hk := of_decide_eq_true hk
  refine decide_eq_true ?_
  unfold sm at hk
  by_cases hc : k < n ∧ (s.nd k).ep = (s.nd i).ep
  · rw [if_pos hc] at hk
    exact ⟨hc.1, hc.2, Nat.le_trans hk (com_le _ _).2⟩
  · rw [if_neg hc] at hk; omega
/-- A call that fails changes nothing. -/
theorem act_err {n : Nat} {s : St} {a : Ac} (h : (actO n s a).2.1 ≠ 0) : (actO n s a).2.2 = s := by
  unfold actO at h ⊢
  split
  · rename_i h1
    rw [if_pos h1] at h
    unfold leadO at h ⊢
    split
    · rfl
    · rename_i h2
      rw [if_neg h2] at h
      split
      · rfl
      · rename_i h3
        rw [if_neg h3] at h
        split
        · rfl
        · rename_i h4
          rw [if_neg h4] at h
          split
          · rfl
          · rename_i h5
            rw [if_neg h5] at h
            exact (h rfl).elim
  · rename_i h1
    rw [if_neg h1] at h
    split
    · rename_i h2
      rw [if_pos h2] at h
      unfold propO at h ⊢
      split
      · rfl
      · rename_i h3
        rw [if_neg h3] at h
        split
        · rfl
        · rename_i h4
          rw [if_neg h4] at h
          exact (h rfl).elim
    · rename_i h2
      rw [if_neg h2] at h
      split
      · rename_i h3
        rw [if_pos h3] at h
        unfold copyO at h ⊢
        split
        · rfl
        · rename_i h4
          rw [if_neg h4] at h
          split
          · rfl
          · rename_i h5
            rw [if_neg h5] at h
            exact (h rfl).elim
      · rename_i h3
        rw [if_neg h3] at h
        split
        · rename_i h4
          rw [if_pos h4] at h
          unfold failO at h ⊢
          split
          · rfl
          · rename_i h5
            rw [if_neg h5] at h
            split
            · rfl
            · rename_i h6
              rw [if_neg h6] at h
              exact (h rfl).elim
        · rename_i h4
          rw [if_neg h4] at h
          split
          · rename_i h5
            rw [if_pos h5] at h
            unfold restartO at h ⊢
            split
            · rfl
            · rename_i h6
              rw [if_neg h6] at h
              split
              · rfl
              · rename_i h7
                rw [if_neg h7] at h
                exact (h rfl).elim
          · rename_i h5
            rw [if_neg h5] at h
            split
            · rename_i h6
              rw [if_pos h6] at h
              unfold cutO at h ⊢
              split
              · rfl
              · rename_i h7
                rw [if_neg h7] at h
                split
                · rfl
                · rename_i h8
                  rw [if_neg h8] at h
                  exact (h rfl).elim
            · rename_i h6
              rw [if_neg h6] at h
              unfold joinO at h ⊢
              split
              · rfl
              · rename_i h7
                rw [if_neg h7] at h
                split
                · rfl
                · rename_i h8
                  rw [if_neg h8] at h
                  exact (h rfl).elim
-- the states of ReplicaStale
def t1 : St := (leadO 3 st0 0).2
def t2 : St := (cutO 3 t1 0).2
def t3 : St := (leadO 3 t2 1).2
theorem t1_y : (leadO 3 st0 0).1 = 0 := by decide +kernel
theorem t2_y : (cutO 3 t1 0).1 = 0 := by decide +kernel
theorem t3_y : (leadO 3 t2 1).1 = 0 := by decide +kernel
section
variable (o f : ByteArray)
def t4 : St := pushed t3 0 o
def t5 : St := pushed (t4 o) 1 f
def t6 : St := (joinO 3 (t5 o f) 0).2
def t7 : St := copied (t6 o f) 1 0
def t8 : St := ⟨(t7 o f).nd, [f]⟩
theorem t4_is : propO 3 t3 0 o = (1, 0, t4 o) := by
  show (if ¬ inr 3 0 then _ else if ldr (t3.nd 0) = false then _ else ((t3.nd 0).log.length + 1, 0, upd 3 (pushed t3 0 o) 0)) = _
  rw [if_neg (by decide), if_neg (by decide +kernel)]
  rw [upd_none (top_zero _ fun m h1 h2 => few (by omega) ?_)]
  · rfl
  · refine Nat.le_trans (Nat.mul_le_mul_left 2 (cnt_mono (Q := fun k => decide (k < 3 ∧ (t3.nd k).ep = 1)) fun k hk hp => ?_)) (show 2 * cnt (fun k => decide (k < 3 ∧ (t3.nd k).ep = 1)) 7 ≤ 3 by decide +kernel)
    have hp := of_decide_eq_true hp
    refine decide_eq_true ⟨hp.1, ?_⟩
    have e1 : ∀ k, ((pushed t3 0 o).nd k).ep = (t3.nd k).ep := fun k => by
      unfold pushed; rw [setN_ep]; split
      · rename_i e; rw [e]
      · rfl
    have := hp.2.1
    rw [e1 k, e1 0] at this
    rw [this]; decide +kernel
theorem t5_is : propO 3 (t4 o) 1 f = (1, 0, t5 o f) := by
  show (if ¬ inr 3 1 then _ else if ldr ((t4 o).nd 1) = false then _ else (((t4 o).nd 1).log.length + 1, 0, upd 3 (pushed (t4 o) 1 f) 1)) = _
  rw [if_neg (by decide), if_neg (by show ¬ (ldr (t3.nd 1) = false); decide +kernel)]
  rw [upd_none (top_zero _ fun m h1 h2 => few (by omega) ?_)]
  · rfl
  · have hm : 0 < m := by omega
    refine Nat.le_trans (Nat.mul_le_mul_left 2 (cnt_mono (Q := fun k => decide (k = 1)) fun k hk hp => ?_)) (show 2 * cnt (fun k => decide (k = 1)) 7 ≤ 3 by decide +kernel)
    have hp := of_decide_eq_true hp
    obtain ⟨h3, h4, h5⟩ := hp
    refine decide_eq_true ?_
    have : k = 0 ∨ k = 1 ∨ k = 2 := by omega
    rcases this with rfl | rfl | rfl
    · have : (1 : Nat) = 2 := h4
      omega
    · rfl
    · have : m ≤ 0 := h5
      omega
theorem t5_e1 : (copyO 3 (t5 o f) 0 2).1 = 25 ∧ (copyO 3 (t5 o f) 0 2).2 = t5 o f := ⟨rfl, rfl⟩
theorem t6_y : (joinO 3 (t5 o f) 0).1 = 0 := rfl
theorem t6_e : (copyO 3 (t6 o f) 0 2).1 = 26 ∧ (copyO 3 (t6 o f) 0 2).2 = t6 o f := ⟨rfl, rfl⟩
theorem t8_is : copyO 3 (t6 o f) 1 0 = (0, t8 o f) := by
  show (0, upd 3 (t7 o f) 1) = _
  rw [upd_all (n := 3) (s := t7 o f) (i := 1) (show (0 : Nat) < 1 by omega) ?_]
  · rfl
  · refine okm_many rfl ?_
    refine Nat.lt_of_lt_of_le (show 3 < 2 * cnt (fun k => decide (k = 0 ∨ k = 1)) 7 by decide +kernel) (Nat.mul_le_mul_left 2 (cnt_mono fun k hk hp => ?_))
    have hp := of_decide_eq_true hp
    refine decide_eq_true ?_
    rcases hp with rfl | rfl
    · show _ ≤ if _ then com _ _ else 0
      rw [if_pos ⟨by decide, rfl⟩]
      exact Nat.le_of_eq (com_self _).symm
    · show _ ≤ if _ then com _ _ else 0
      rw [if_pos ⟨by decide, rfl⟩]
      exact Nat.le_of_eq (com_self _).symm
theorem t8_ep : ((t8 o f).nd 0).ep = 2 := rfl
theorem t8_no : (propO 3 (t8 o f) 0 o).2.1 = 8 ∧ (propO 3 (t8 o f) 0 o).2.2 = t8 o f := ⟨rfl, rfl⟩
theorem t8_log : ((t8 o f).nd 0).log = [(2, f)] := rfl
end
end Rp
end Go.Proofs.Ytdbpbpnbcjbchaa
