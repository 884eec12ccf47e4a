/- A leader without failures, in plain Lean. -/
import Derived.Test.YtdbpbpnbcjbchaaRepHalfP
set_option linter.unusedVariables false
namespace Go.Proofs.Ytdbpbpnbcjbchaa
open Go.RowKit
namespace Rp
/-- Node 0 leads, nothing failed; the logs of the nodes from j on lack the last entry. -/
structure Cq (n : Nat) (s : St) (l : Log) (j : Nat) : Prop where
  ep : ∀ k, k < n → (s.nd k).ep = 1
  led : (s.nd 0).led = 1
  down : ∀ k, k < n → (s.nd k).down = false
  cut : ∀ k, k < n → (s.nd k).cut = false
  log : (s.nd 0).log = l
  same : ∀ k, k < j → (s.nd k).log = l
  less : ∀ k, j ≤ k → k ≠ 0 → (s.nd k).log.length < l.length
  ee : ∀ p, p < l.length → ee l p = 1
/-- Between the rounds. -/
structure Cb (n : Nat) (s : St) (l : Log) : Prop where
  ep : ∀ k, k < n → (s.nd k).ep = 1
  led : (s.nd 0).led = 1
  down : ∀ k, k < n → (s.nd k).down = false
  cut : ∀ k, k < n → (s.nd k).cut = false
  log : (s.nd 0).log = l
  le : ∀ k, (s.nd k).log.length ≤ l.length
  ee : ∀ p, p < l.length → ee l p = 1
  done : s.done = l.map Prod.snd
theorem cb0 {n : Nat} (h1 : 1 ≤ n) : Cb n (leadO n st0 0).2 [] := by
  have h := (fst0 h1).2
  exact ⟨h.one.ep, h.led, h.one.down, fun k _ => h.cut k, h.log, fun k => by
    by_cases e : k = 0
    · subst e; rw [h.log]; exact Nat.le_refl _
    · rw [h.one.log k e]; exact Nat.le_refl _, fun p hp => absurd hp (by simp), h.one.done⟩
theorem cnt_lt : ∀ j, j ≤ 7 → cnt (fun k => decide (k < j)) 7 = j := by decide +kernel
theorem Cq.cnt {n : Nat} {s : St} {l : Log} {j : Nat} (h : Cq n s l j) (hj : 1 ≤ j) (hjn : j ≤ n) (hn : n ≤ 7) (hl : 0 < l.length) : cnt (fun k => decide (l.length ≤ sm n s 0 k)) 7 = j := by
  have e : ∀ k, decide (l.length ≤ sm n s 0 k) = decide (k < j) := fun k => by
    rw [decide_eq_decide]
    unfold sm
    rw [h.log]
    by_cases hk : k < j
    · rw [if_pos ⟨by omega, by rw [h.ep k (by omega), h.ep 0 (by omega)]⟩, h.same k hk, com_self]
      exact ⟨fun _ => hk, fun _ => Nat.le_refl _⟩
    · refine ⟨fun hc => ?_, fun hc => (hk hc).elim⟩
      exfalso
      split at hc
      · have := (com_le l (s.nd k).log).2
        have := h.less k (by omega) (by omega)
        omega
      · omega
  rw [show (fun k => decide (l.length ≤ sm n s 0 k)) = (fun k => decide (k < j)) from funext e]
  exact cnt_lt j (by omega)
theorem Cq.upd {n : Nat} {s : St} {l : Log} {j : Nat} (h : Cq n s l j) (hj : 1 ≤ j) (hjn : j ≤ n) (hn : n ≤ 7) (hl : s.done.length + 1 = l.length) : upd n s 0 = ⟨s.nd, if n < 2 * j then l.map Prod.snd else s.done⟩ := by
  have hc := h.cnt hj hjn hn (by omega)
  by_cases hm : n < 2 * j
  · rw [if_pos hm, upd_all (by rw [h.log]; omega) (okm_many ?_ ?_), h.log]
    · rw [h.log, h.ee _ (by omega), h.ep 0 (by omega)]
    · rw [h.log, hc]; exact hm
  · rw [if_neg hm, upd_none (top_zero _ fun m h1 h2 => ?_)]
    rw [h.log] at h2
    obtain rfl : m = l.length := by omega
    exact okm_few (by rw [hc]; omega)
theorem ee_push (l : Log) (x : Nat × ByteArray) (p : Nat) : ee (l ++ [x]) p = if p < l.length then ee l p else if p = l.length then x.1 else 0 := by
  unfold ee
  rw [List.getD_eq_getElem?_getD, List.getD_eq_getElem?_getD]
  by_cases h : p < l.length
  · rw [if_pos h, List.getElem?_append_left h]
  · rw [if_neg h, List.getElem?_append_right (by omega)]
    by_cases h2 : p = l.length
    · subst h2; rw [if_pos rfl]; simp
    · rw [if_neg h2]
      rw [List.getElem?_eq_none (by simp; omega)]
      rfl
theorem Cb.push {n : Nat} {s : St} {l : Log} (h : Cb n s l) (hn : 0 < n) (t : ByteArray) : Cq n (pushed s 0 t) (l ++ [(1, t)]) 1 ∧ (pushed s 0 t).done = l.map Prod.snd := by
  have hl0 : ((pushed s 0 t).nd 0).log = l ++ [(1, t)] := by unfold pushed; rw [setN_at]; show (s.nd 0).log ++ [((s.nd 0).ep, t)] = _; rw [h.log, h.ep 0 hn]
  refine ⟨⟨fun k hk => ?_, ?_, fun k hk => ?_, fun k hk => ?_, hl0, fun k hk => ?_, fun k hk h0 => ?_, fun p hp => ?_⟩, h.done⟩
  · unfold pushed; rw [setN_ep]; split
    · exact h.ep 0 hn
    · exact h.ep k hk
  · unfold pushed; rw [setN_at]; exact h.led
  · unfold pushed
    by_cases e : k = 0
    · subst e; rw [setN_at]; exact h.down 0 hn
    · rw [setN_ne _ _ e]; exact h.down k hk
  · unfold pushed
    by_cases e : k = 0
    · subst e; rw [setN_at]; exact h.cut 0 hn
    · rw [setN_ne _ _ e]; exact h.cut k hk
  · obtain rfl : k = 0 := by omega
    exact hl0
  · unfold pushed
    rw [setN_log, if_neg h0, List.length_append, List.length_singleton]
    have := h.le k
    omega
  · rw [ee_push]
    rw [List.length_append, List.length_singleton] at hp
    split
    · exact h.ee p (by omega)
    · rw [if_pos (by omega)]
/-- The state behind a Propose, or a Copy, with j nodes that have all. -/
structure Cr (n : Nat) (s : St) (l : Log) (d : List ByteArray) (j : Nat) : Prop where
  q : Cq n s l j
  done : s.done = if n < 2 * j then l.map Prod.snd else d
theorem Cq.to {n : Nat} {s : St} {l : Log} {j : Nat} {d : List ByteArray} (h : Cq n s l j) (hd : s.done = d) (hj : 1 ≤ j) (hjn : j ≤ n) (hn : n ≤ 7) (hl : d.length + 1 = l.length) : Cr n (Rp.upd n s 0) l d j := by
  rw [h.upd hj hjn hn (by rw [hd]; exact hl)]
  exact ⟨⟨h.ep, h.led, h.down, h.cut, h.log, h.same, h.less, h.ee⟩, by rw [hd]⟩
theorem Cq.ldr {n : Nat} {s : St} {l : Log} {j : Nat} (h : Cq n s l j) (hn : 0 < n) : ldr (s.nd 0) = true := by
  unfold Rp.ldr; rw [h.down 0 hn, h.led, h.ep 0 hn]; rfl
theorem Cb.ldr {n : Nat} {s : St} {l : Log} (h : Cb n s l) (h1 : 1 ≤ n) : Rp.ldr (s.nd 0) = true := by
  unfold Rp.ldr; rw [h.down 0 h1, h.led, h.ep 0 h1]; rfl
theorem cm_prop {n : Nat} {s : St} {l : Log} (h : Cb n s l) (h1 : 1 ≤ n) (hn : n ≤ 7) (t : ByteArray) : Cr n (Rp.upd n (pushed s 0 t) 0) (l ++ [(1, t)]) (l.map Prod.snd) 1 := by
  obtain ⟨p1, p2⟩ := h.push (by omega) t
  exact p1.to p2 (Nat.le_refl _) h1 hn (by rw [List.length_map, List.length_append]; rfl)
theorem cm_copy {n j : Nat} {s : St} {l : Log} {d : List ByteArray} (h : Cr n s l d j) (hj : 1 ≤ j) (h2 : 2 * j ≤ n) (hn : n ≤ 7) (hl : d.length + 1 = l.length) : cpe s 0 j = 0 ∧ Cr n (Rp.upd n (copied s 0 j) 0) l d (j + 1) := by
  have hq := h.q
  have hd : s.done = d := by rw [h.done, if_neg (by omega)]
  refine ⟨?_, ?_⟩
  · unfold cpe
    rw [hq.down 0 (by omega), hq.down j (by omega), hq.ldr (by omega), hq.cut 0 (by omega), hq.cut j (by omega), hq.ep 0 (by omega), hq.ep j (by omega)]
    rfl
  have hcp : copied s 0 j = setN s j ⟨(s.nd j).down, (s.nd j).cut, (s.nd 0).ep, (s.nd j).led, (s.nd 0).log⟩ := if_neg (by omega)
  rw [hcp]
  have hcq : Cq n (setN s j ⟨(s.nd j).down, (s.nd j).cut, (s.nd 0).ep, (s.nd j).led, (s.nd 0).log⟩) l (j + 1) := by
    refine ⟨fun k hk => ?_, ?_, fun k hk => ?_, fun k hk => ?_, ?_, fun k hk => ?_, fun k hk h0 => ?_, hq.ee⟩
    · rw [setN_ep]; split
      · exact hq.ep 0 (by omega)
      · exact hq.ep k hk
    · rw [setN_ne _ _ (by omega)]; exact hq.led
    · by_cases e : k = j
      · subst e; rw [setN_at]; exact hq.down k hk
      · rw [setN_ne _ _ e]; exact hq.down k hk
    · by_cases e : k = j
      · subst e; rw [setN_at]; exact hq.cut k hk
      · rw [setN_ne _ _ e]; exact hq.cut k hk
    · rw [setN_ne _ _ (by omega)]; exact hq.log
    · rw [setN_log]; split
      · exact hq.log
      · exact hq.same k (by omega)
    · rw [setN_log, if_neg (by omega)]; exact hq.less k (by omega) h0
  exact hcq.to hd (by omega) (by omega) hn hl
theorem Cr.fin {n j : Nat} {s : St} {l : Log} {d : List ByteArray} (h : Cr n s l d j) (h2 : n < 2 * j) : Cb n s l := by
  refine ⟨h.q.ep, h.q.led, h.q.down, h.q.cut, h.q.log, fun k => ?_, h.q.ee, by rw [h.done, if_pos h2]⟩
  by_cases hk : k < j
  · rw [h.q.same k hk]; exact Nat.le_refl _
  · by_cases h0 : k = 0
    · subst h0; rw [h.q.log]; exact Nat.le_refl _
    · exact Nat.le_of_lt (h.q.less k (by omega) h0)
end Rp
end Go.Proofs.Ytdbpbpnbcjbchaa
