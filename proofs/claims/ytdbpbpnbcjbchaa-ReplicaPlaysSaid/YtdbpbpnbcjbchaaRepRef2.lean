/- The reference's walks that read a node, an epoch, the committed texts; New. -/
import Derived.Test.YtdbpbpnbcjbchaaRepRef1
set_option linter.unusedVariables false
namespace Go.Proofs.Ytdbpbpnbcjbchaa
open Go.RowKit
namespace Rp
set_option maxHeartbeats 2000000 in
theorem rleads_any (w : World) (d : Nd) (v : Value) :
    Calls Try.prog 48 #[.agg #[.bool d.down, .bool d.cut, .int .i64 (d.ep : Int), .int .i64 (d.led : Int), v]] w fun e w' => e = .returned (.bool (ldr d)) ∧ Below w.heap.size w w' := by
  have HB := Lib.hid ((Below.refl w.heap.size w).alloc (Nat.le_refl _) (.cells #[.bool d.down, .bool d.cut, .int .i64 (d.ep : Int), .int .i64 (d.led : Int), v] 71))
  unfold ldr
  go_enter Try.func48, Try.ntmps48
  cases hd : d.down with
  | true =>
    rw [hd] at HB
    go_wp2
    go_ret
    exact ⟨rfl, HB.out⟩
  | false =>
    rw [hd] at HB
    by_cases h4 : 0 < d.led
    · have h6 : ((0 : Int) < (d.led : Int)) := by omega
      by_cases h5 : d.led = d.ep
      · have h7 : ((d.led : Int) == (d.ep : Int)) = true := by simp [h5]
        rw [h5] at HB h4 h6
        have h8 : 0 < d.ep := h4
        go_wp2
        go_ret
        exact ⟨by simp [h5]; omega, HB.out⟩
      · have h7 : ((d.led : Int) == (d.ep : Int)) = false := by simp; omega
        go_wp2
        go_ret
        exact ⟨by simp [h5], HB.out⟩
    · have h6 : ¬ ((0 : Int) < (d.led : Int)) := by omega
      go_wp2
      go_ret
      exact ⟨rfl, HB.out⟩
set_option maxHeartbeats 2000000 in
theorem rlast_any {w : World} {d : Nd} {A : Option Addr} {c : Nat} (hA : Cells w A (d.log.length * 2) (Ent d.log)) (hl : d.log.length ≤ 1024) :
    Calls Try.prog 47 #[.agg #[.bool d.down, .bool d.cut, .int .i64 (d.ep : Int), .int .i64 (d.led : Int), .slice A d.log.length c]] w fun e w' => e = .returned (.int .i64 (last d.log : Int)) ∧ Below w.heap.size w w' := by
  have HB := Lib.hid ((Below.refl w.heap.size w).alloc (Nat.le_refl _) (.cells #[.bool d.down, .bool d.cut, .int .i64 (d.ep : Int), .int .i64 (d.led : Int), .slice A d.log.length c] 71))
  obtain ⟨m, hm⟩ : ∃ m, m = d.log.length := ⟨_, rfl⟩
  unfold last
  rw [← hm] at hl hA HB ⊢
  rcases Nat.eq_zero_or_pos m with h0 | h0
  · subst h0
    rw [if_pos rfl]
    clear hm hA
    go_enter Try.func47, Try.ntmps47
    go_wp2
    go_ret
    exact ⟨rfl, HB.out⟩
  · rw [if_neg (by omega)]
    obtain ⟨b, off, e, hlt, hc⟩ := hA (by omega)
    subst e
    have q := (hc ((m - 1) * 2) (by omega)).trans (by rw [(Ent_at _ _).1])
    obtain ⟨r, hr⟩ : ∃ r : Nat, m = r + 1 := ⟨m - 1, by omega⟩
    subst hr
    rw [show r + 1 - 1 = r by omega] at q ⊢
    have h5 : (((r + 1 : Nat) : Int) == 0) = false := by simp; omega
    have h6 : IntKind.i64.wrap (((r + 1 : Nat) : Int) - 1) = (r : Int) := by rw [show ((r + 1 : Nat) : Int) - 1 = (r : Int) by omega]; exact IntWalk.i64_in _ (by omega)
    clear hm hA hc
    go_enter Try.func47, Try.ntmps47
    go_wp2
    go_ret
    exact ⟨rfl, HB.out⟩
section
variable {B : Nat} {w : World} {h b n : Nat} {s : St} {lv : Nat → Value} {cv : Value}
set_option maxHeartbeats 1000000 in
theorem repoch_ok (c : Rf B w h b n s lv cv) {i : Nat} (hi : i < n) :
    Calls Try.prog 25 #[.pointer (some ⟨h, 0, none⟩), .int .i64 (i : Int)] w fun e w' => e = .returned (.int .i64 ((s.nd i).ep : Int)) ∧ w = w' := by
  have hn7 := c.n7
  obtain ⟨g0, _⟩ := c.g0
  obtain ⟨_, _, h2, _⟩ := c.at_ hi
  have HC := Lib.hid c
  clear c
  go_enter Try.func25, Try.ntmps25
  go_wp2_with fail
  refine (rhas_yes HC.out hi).mono ?_
  rintro e w1 ⟨rfl, rfl⟩
  go_wp2
  go_ret
  exact ⟨rfl, rfl⟩
set_option maxHeartbeats 1000000 in
theorem repoch_bad (c : Rf B w h b n s lv cv) {x : Int} (hx : x < 0 ∨ (n : Int) ≤ x) :
    Calls Try.prog 25 #[.pointer (some ⟨h, 0, none⟩), .int .i64 x] w fun e w' => e = .returned (.int .i64 0) ∧ w = w' := by
  have HC := Lib.hid c
  clear c
  go_enter Try.func25, Try.ntmps25
  go_wp2_with fail
  refine (rhas_no HC.out hx).mono ?_
  rintro e w1 ⟨rfl, rfl⟩
  go_wp2
  go_ret
  exact ⟨rfl, rfl⟩
set_option maxHeartbeats 1000000 in
set_option maxRecDepth 100000 in
theorem rcomm_any (c : Rf B w h b n s lv cv) (hs : s.done.length ≤ 1024) :
    Calls Try.prog 24 #[.pointer (some ⟨h, 0, none⟩)] w fun e w' => ∃ D c', e = .returned (.slice D s.done.length c') ∧ Cells w' D (s.done.length * 1) (Str s.done) ∧ Below w.heap.size w w' := by
  obtain ⟨i0, hi, hz0, hz1, hz2⟩ := info_parts Try.infoStr
  obtain ⟨_, h6⟩ := c.g0
  have hhw := c.grp.lt
  have ho := c.cow
  obtain ⟨A, cp, e, hcp⟩ := own_slice ho
  subst e
  have hC := Cells.of_own ho
  clear c ho
  obtain ⟨k, hk⟩ : ∃ k, k = s.done.length := ⟨_, rfl⟩
  rw [← hk] at hC hcp h6 hs ⊢
  have HC := Lib.hid hC
  clear hC hk
  have HM := Lib.hid (World.ownsRow_made (e := 9) (size := 1) (base := w.heap.size) w #[] 0 (Nat.le_refl _) (by unfold maxLen; omega) (by rfl))
  have HAL := Lib.hid ((Below.refl w.heap.size w).alloc (Nat.le_refl _) (.cells #[] 9))
  cases A with
  | none =>
    have hn0 : k = 0 := by
      rcases Nat.eq_zero_or_pos k with h | h
      · exact h
      · obtain ⟨_, _, e, _⟩ := HC.out (by omega)
        cases e
    subst hn0
    go_enter Try.func24, Try.ntmps24
    go_wp2
    go_ret
    exact ⟨_, _, rfl, Cells.nil, HAL.out⟩
  | some ad =>
    go_enter Try.func24, Try.ntmps24
    go_wp2_with (at_builtin; refine wpList_append_own _ rfl _ _ 22 rfl w.heap.size 9 i0 (.string ByteArray.empty) 1 16 Try.underlying22 hi hz0 hz1 hz2 rfl (by decide) _ 0 [] rfl HM.out ad k cp (row (k * 1) (Str s.done)) rfl ?c0 ?c1 ?c2 ?c3 ?c4 ?c5 ?_)
    case c0 => rw [row_length]
    case c1 =>
      intro j u hj
      have hjn : j < k * 1 := by
        rcases Nat.lt_or_ge j (k * 1) with h | h
        · exact h
        · rw [List.getElem?_eq_none (by rw [row_length]; exact h)] at hj; cases hj
      rw [row_get hjn] at hj
      injection hj with hj
      rw [← hj]
      exact Cells.at_add (HC.out.below HAL.out) hjn
    case c2 =>
      intro u hu
      unfold row at hu
      obtain ⟨j, _, rfl⟩ := List.mem_map.1 hu
      rfl
    case c3 => unfold maxLen; omega
    case c4 => omega
    case c5 => simp
    intro v' w3 hown' hgrow _
    have hown2 : w3.ownsRow w.heap.size 9 1 v' k (row (k * 1) (Str s.done)) := by
      try simp only [Nat.zero_add, List.nil_append] at hown'
      rw [Nat.mul_one]
      exact hown'
    obtain ⟨D', c', rfl, _⟩ := own_slice hown2
    have HO := Lib.hid (Cells.of_own hown2)
    have HB := Lib.hid (own_below HAL.out HM.out (by simp) hgrow)
    clear hown' hgrow hown2
    go_wp2
    go_ret
    exact ⟨_, _, rfl, HO.out, HB.out⟩
end
end Rp
end Go.Proofs.Ytdbpbpnbcjbchaa
