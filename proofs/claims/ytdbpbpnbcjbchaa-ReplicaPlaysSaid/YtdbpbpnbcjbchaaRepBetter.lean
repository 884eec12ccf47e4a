/- The walk of better: whose log is better. -/
import Derived.Test.YtdbpbpnbcjbchaaRepLast
set_option linter.unusedVariables false
namespace Go.Proofs.Ytdbpbpnbcjbchaa
open Go.RowKit
namespace Rp
theorem Gp.keep {B : Nat} {w w1 : World} {h n : Nat} {s : St} {lv : Nat → Value} {cv : Value} (c : Gp B w h n s lv cv) (hb : Below w.heap.size w w1) : Gp B w1 h n s lv cv :=
  ⟨Blk.keep c.blk hb, fun i hi => own_keep (c.own i hi) hb, own_keep c.cow hb, c.dif, c.hB, c.n1, c.n7, c.zero, c.l, c.e⟩
theorem Gp.drewN {B : Nat} {w : World} {h n : Nat} {s : St} {lv : Nat → Value} {cv : Value} (c : Gp B w h n s lv cv) (k : Nat) : Gp B (w.drewN k) h n s lv cv := c.keep (below_drewN (Below.refl _ _) k)
/-- The log of a is better than that of b. -/
def bet (a b : Log) : Bool := if last a = last b then decide (b.length < a.length) else decide (last b < last a)
set_option maxHeartbeats 2000000 in
theorem better_any {B : Nat} {w : World} {h n : Nat} {s : St} {lv : Nat → Value} {cv : Value} (c : Gp B w h n s lv cv) {i j : Nat} (hi : i < 7) (hj : j < 7) :
    Calls Try.prog 29 #[.pointer (some ⟨h, 1 + i * 5, none⟩), .pointer (some ⟨h, 1 + j * 5, none⟩)] w fun e w' => e = .returned (.bool (bet (s.nd i).log (s.nd j).log)) ∧ ∃ k, w' = w.drewN k := by
  obtain ⟨A, cp, hlv, _, _⟩ := c.log hi
  obtain ⟨A', cp', hlv', _, _⟩ := c.log hj
  have HL := Lib.hid hlv
  have HL' := Lib.hid hlv'
  have HC := Lib.hid c
  obtain ⟨x, hx⟩ : ∃ x, x = last (s.nd i).log := ⟨_, rfl⟩
  obtain ⟨y, hy⟩ : ∃ y, y = last (s.nd j).log := ⟨_, rfl⟩
  have C1 := Lib.hid fun (w' : World) (c' : Gp B w' h n s lv cv) => last_any c' hi
  have C2 := Lib.hid fun (w' : World) (c' : Gp B w' h n s lv cv) => last_any c' hj
  unfold bet
  rw [← hx, ← hy]
  rw [← hx] at C1
  rw [← hy] at C2
  clear hlv hlv' c hx hy
  by_cases hxy : x = y
  · subst hxy
    rw [if_pos rfl]
    go_enter Try.func29, Try.ntmps29
    go_wp2_with fail
    refine (C1.out _ HC.out).mono ?_
    rintro e w1 ⟨rfl, k1, rfl⟩
    go_wp2_with fail
    refine (C2.out _ (HC.out.drewN k1)).mono ?_
    rintro e w2 ⟨rfl, k2, rfl⟩
    obtain ⟨_, _, _, _, q1, _⟩ := HC.out.at_ hi
    obtain ⟨_, _, _, _, q2, _⟩ := HC.out.at_ hj
    rw [HL.out] at q1
    rw [HL'.out] at q2
    by_cases hlt : (s.nd j).log.length < (s.nd i).log.length
    · have h5 : decide ((((s.nd j).log.length : Nat) : Int) < ((s.nd i).log.length : Int)) = true := by simp; exact hlt
      go_wp2
      go_quiet (fail)
      go_wp2
      go_ret
      exact ⟨by simp [hlt], k1 + k2 + nq, by simp [World.drewN, Nat.add_assoc]⟩
    · have h5 : decide ((((s.nd j).log.length : Nat) : Int) < ((s.nd i).log.length : Int)) = false := by simp; omega
      go_wp2
      go_quiet (fail)
      go_wp2
      go_ret
      exact ⟨by simp [hlt], k1 + k2 + nq, by simp [World.drewN, Nat.add_assoc]⟩
  · rw [if_neg hxy]
    have h4 : ((x : Int) == (y : Int)) = false := by simp; omega
    have h5 : decide ((y : Int) < (x : Int)) = decide (y < x) := by simp
    go_enter Try.func29, Try.ntmps29
    go_wp2_with fail
    refine (C1.out _ HC.out).mono ?_
    rintro e w1 ⟨rfl, k1, rfl⟩
    go_wp2_with fail
    refine (C2.out _ (HC.out.drewN k1)).mono ?_
    rintro e w2 ⟨rfl, k2, rfl⟩
    go_wp2_with fail
    refine (C1.out _ (HC.out.drewN (k1 + k2))).mono ?_
    rintro e w3 ⟨rfl, k3, rfl⟩
    go_wp2_with fail
    refine (C2.out _ (HC.out.drewN (k1 + k2 + k3))).mono ?_
    rintro e w4 ⟨rfl, k4, rfl⟩
    go_wp2
    go_ret
    exact ⟨by simp, k1 + k2 + k3 + k4, by simp [World.drewN, Nat.add_assoc]⟩
end Rp
end Go.Proofs.Ytdbpbpnbcjbchaa
