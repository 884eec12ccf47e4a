/- The walk of Committed: a copy of the committed texts. -/
import Derived.Test.YtdbpbpnbcjbchaaRepBetter
set_option linter.unusedVariables false
namespace Go.Proofs.Ytdbpbpnbcjbchaa
open Go.RowKit
theorem Try.infoStr : (Try.prog.info? 9).map (fun i => (i.zero, i.size, i.bytes)) = some (some (.string ByteArray.empty), 1, 16) := by kernel_rfl
theorem Cells.at_add {w : World} {a : Addr} {m : Nat} {G : Nat → Value} (h : Cells w (some a) m G) {j : Nat} (hj : j < m) : w.cell? (a.add j) = some (G j) := by
  obtain ⟨b, off, e, _, hc⟩ := h (by omega)
  injection e with e
  subst e
  have := hc j hj
  unfold Addr.add
  split
  · rename_i h0; subst h0; exact this
  · exact this
namespace Rp
set_option maxHeartbeats 1000000 in
set_option maxRecDepth 100000 in
theorem committed_any {B : Nat} {w : World} {h n : Nat} {s : St} {lv : Nat → Value} {cv : Value} (c : Gp B w h n s lv cv) (hs : s.done.length ≤ 1024) :
    Calls Try.prog 14 #[.pointer (some ⟨h, 0, none⟩)] w fun e w' => ∃ v, e = .returned v ∧ w'.ownsRow w.heap.size 9 1 v s.done.length (row (s.done.length * 1) (Str s.done)) ∧ Below w.heap.size w w' := by
  obtain ⟨i0, hi, hz0, hz1, hz2⟩ := info_parts Try.infoStr
  obtain ⟨_, _, _, _, _, _, h6⟩ := c.at_ (i := 0) (by omega)
  have ho := c.cow
  obtain ⟨A, cp, e, hcp⟩ := own_slice ho
  subst e
  have hC := Cells.of_own ho
  clear c ho
  obtain ⟨k, hk⟩ : ∃ k, k = s.done.length := ⟨_, rfl⟩
  rw [← hk] at hC hcp h6 hs ⊢
  rw [Nat.mul_one] at hC
  have HC := Lib.hid hC
  clear hC hk
  cases A with
  | none =>
    have hn0 : k = 0 := by
      rcases Nat.eq_zero_or_pos k with h | h
      · exact h
      · obtain ⟨_, _, e, _⟩ := HC.out h
        cases e
    subst hn0
    go_enter Try.func14, Try.ntmps14
    go_wp2
    go_ret
    exact ⟨_, rfl, World.ownsRow_nil _ _ _ _, Below.refl _ _⟩
  | some ad =>
    go_enter Try.func14, Try.ntmps14
    go_wp2_with (at_builtin; refine wpList_append_own _ rfl _ _ 22 rfl w.heap.size 9 i0 (.string ByteArray.empty) 1 16 Try.underlying22 hi hz0 hz1 hz2 rfl (by decide) (.slice none 0 0) 0 [] rfl (World.ownsRow_nil _ _ _ _) ad k cp (row k (Str s.done)) rfl ?c0 ?c1 ?c2 ?c3 ?c4 ?c5 ?_)
    case c0 => rw [row_length, Nat.mul_one]
    case c1 =>
      intro j u hj
      have hjn : j < k := by
        rcases Nat.lt_or_ge j k with h | h
        · exact h
        · rw [List.getElem?_eq_none (by rw [row_length]; exact h)] at hj; cases hj
      rw [row_get hjn] at hj
      injection hj with hj
      rw [← hj]
      exact HC.out.at_add hjn
    case c2 =>
      intro u hu
      unfold row at hu
      obtain ⟨j, _, rfl⟩ := List.mem_map.1 hu
      rfl
    case c3 => unfold maxLen; omega
    case c4 => omega
    case c5 => simp
    intro v' w3 hown' hgrow _
    have HO : Hid (w3.ownsRow w.heap.size 9 1 v' k (row (k * 1) (Str s.done))) := by
      rw [Nat.mul_one]
      try simp only [Nat.zero_add, List.nil_append] at hown'
      exact hown'
    have HB := Lib.hid (own_below (Below.refl w.heap.size w) (World.ownsRow_nil w w.heap.size 9 1) (Nat.le_refl _) hgrow)
    clear hown' hgrow
    go_wp2
    go_ret
    exact ⟨_, rfl, HO.out, HB.out⟩
end Rp
end Go.Proofs.Ytdbpbpnbcjbchaa
