/- The walk of last: the epoch of a log's last entry. -/
import Derived.Test.YtdbpbpnbcjbchaaRepRead
import Derived.BigQuiet
set_option linter.unusedVariables false
namespace Go.Proofs.Ytdbpbpnbcjbchaa
open Go.RowKit
namespace Rp
theorem Ent_at (l : Log) (k : Nat) : Ent l (k * 2) = .int .i64 (ee l k : Int) ∧ Ent l (k * 2 + 1) = .string (tt l k) := by
  unfold Ent
  refine ⟨?_, ?_⟩
  · rw [if_pos (by omega), show k * 2 / 2 = k by omega]
  · rw [if_neg (by omega), show (k * 2 + 1) / 2 = k by omega]
/-- A node's log in memory. -/
theorem Gp.log {B : Nat} {w : World} {h n : Nat} {s : St} {lv : Nat → Value} {cv : Value} (c : Gp B w h n s lv cv) {i : Nat} (hi : i < 7) :
    ∃ A c, lv i = .slice A (s.nd i).log.length c ∧ (s.nd i).log.length ≤ c ∧ Cells w A ((s.nd i).log.length * 2) (Ent (s.nd i).log) := by
  have ho := c.own i hi
  obtain ⟨A, k, e, hk⟩ := own_slice ho
  rw [e] at ho
  exact ⟨A, k, e, hk, Cells.of_own ho⟩
set_option maxHeartbeats 1000000 in
theorem last_any {B : Nat} {w : World} {h n : Nat} {s : St} {lv : Nat → Value} {cv : Value} (c : Gp B w h n s lv cv) {i : Nat} (hi : i < 7) :
    Calls Try.prog 44 #[.pointer (some ⟨h, 1 + i * 5, none⟩)] w fun e w' => e = .returned (.int .i64 (last (s.nd i).log : Int)) ∧ ∃ k, w' = w.drewN k := by
  obtain ⟨_, _, _, _, h4, _⟩ := c.at_ hi
  obtain ⟨A, cp, hlv, hcp, hA⟩ := c.log hi
  have hl := c.l i hi
  rw [hlv] at h4
  obtain ⟨m, hm⟩ : ∃ m, m = (s.nd i).log.length := ⟨_, rfl⟩
  unfold last
  rw [← hm] at hl hcp hA h4 ⊢
  rcases Nat.eq_zero_or_pos m with h0 | h0
  · subst h0
    rw [if_pos rfl]
    clear c hlv hm hA
    go_enter Try.func44, Try.ntmps44
    go_wp2
    go_ret
    exact ⟨rfl, 0, rfl⟩
  · rw [if_neg (by omega)]
    obtain ⟨b, off, e, hlt, hc⟩ := hA (by omega)
    subst e
    have q := (hc ((m - 1) * 2) (by omega)).trans (by rw [(Ent_at _ _).1])
    obtain ⟨r, hr⟩ : ∃ r : Nat, m = r + 1 := ⟨m - 1, by omega⟩
    subst hr
    rw [show r + 1 - 1 = r by omega] at q ⊢
    have h5 : (((r + 1 : Nat) : Int) == 0) = false := by simp; omega
    have h6 : IntKind.i64.wrap (((r + 1 : Nat) : Int) - 1) = (r : Int) := by rw [show ((r + 1 : Nat) : Int) - 1 = (r : Int) by omega]; exact IntWalk.i64_in _ (by omega)
    clear c hlv hm hA hc
    go_enter Try.func44, Try.ntmps44
    go_wp2
    go_quiet (fail)
    go_wp2
    go_ret
    exact ⟨rfl, _, rfl⟩
end Rp
end Go.Proofs.Ytdbpbpnbcjbchaa
