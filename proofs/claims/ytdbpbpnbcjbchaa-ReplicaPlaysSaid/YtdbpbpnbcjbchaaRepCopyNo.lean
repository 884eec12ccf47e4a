/- The walks of Propose and Copy where they refuse, and of Copy. -/
import Derived.Test.YtdbpbpnbcjbchaaRepPropose
set_option linter.unusedVariables false
namespace Go.Proofs.Ytdbpbpnbcjbchaa
open Go.RowKit
namespace Rp
set_option maxHeartbeats 1000000 in
theorem propose_bad {B : Nat} {w : World} {h n : Nat} {s : St} {lv : Nat → Value} {cv : Value} (c : Gp B w h n s lv cv) {x : Int} {t : ByteArray} (hx : x < 0 ∨ (n : Int) ≤ x) :
    Calls Try.prog 12 #[.pointer (some ⟨h, 0, none⟩), .int .i64 x, .string t] w fun e w' => e = .returned (.tuple #[.int .i64 0, .int .i64 2]) ∧ Dn w w' := by
  have HC := Lib.hid c
  clear c
  go_enter Try.func12, Try.ntmps12
  go_wp2_with fail
  refine (find_bad HC.out hx).mono ?_
  rintro e w1 ⟨rfl, rfl⟩
  go_wp2
  go_ret2
  exact ⟨rfl, Dn.refl _⟩
set_option maxHeartbeats 1000000 in
theorem propose_no {B : Nat} {w : World} {h n : Nat} {s : St} {lv : Nat → Value} {cv : Value} (c : Gp B w h n s lv cv) {i : Nat} {t : ByteArray} (hi : i < n) (hl : ldr (s.nd i) = false) :
    Calls Try.prog 12 #[.pointer (some ⟨h, 0, none⟩), .int .i64 (i : Int), .string t] w fun e w' => e = .returned (.tuple #[.int .i64 0, .int .i64 8]) ∧ Dn w w' := by
  have hn7 := c.n7
  have hi7 : i < 7 := by omega
  have CL := leads_any c hi7
  rw [hl] at CL
  have HL := Lib.hid CL
  have HC := Lib.hid c
  clear c hl CL
  go_enter Try.func12, Try.ntmps12
  go_wp2_with fail
  refine (find_ok HC.out rfl hi).mono ?_
  rintro e w1 ⟨rfl, rfl⟩
  go_wp2_with fail
  refine HL.out.mono ?_
  rintro e w1 ⟨rfl, k1, rfl⟩
  go_wp2
  go_ret2
  exact ⟨rfl, ⟨_, rfl⟩⟩
set_option maxHeartbeats 1000000 in
theorem copy_bad1 {B : Nat} {w : World} {h n : Nat} {s : St} {lv : Nat → Value} {cv : Value} (c : Gp B w h n s lv cv) {x y : Int} (hx : x < 0 ∨ (n : Int) ≤ x) :
    Calls Try.prog 15 #[.pointer (some ⟨h, 0, none⟩), .int .i64 x, .int .i64 y] w fun e w' => e = .returned (.int .i64 2) ∧ Dn w w' := by
  have HC := Lib.hid c
  clear c
  go_enter Try.func15, Try.ntmps15
  go_wp2_with fail
  refine (find_bad HC.out hx).mono ?_
  rintro e w1 ⟨rfl, rfl⟩
  go_wp2
  go_ret
  exact ⟨rfl, Dn.refl _⟩
set_option maxHeartbeats 1000000 in
theorem copy_bad2 {B : Nat} {w : World} {h n : Nat} {s : St} {lv : Nat → Value} {cv : Value} (c : Gp B w h n s lv cv) {i : Nat} {y : Int} (hi : i < n) (hx : y < 0 ∨ (n : Int) ≤ y) :
    Calls Try.prog 15 #[.pointer (some ⟨h, 0, none⟩), .int .i64 (i : Int), .int .i64 y] w fun e w' => e = .returned (.int .i64 2) ∧ Dn w w' := by
  have HC := Lib.hid c
  clear c
  go_enter Try.func15, Try.ntmps15
  go_wp2_with fail
  refine (find_ok HC.out rfl hi).mono ?_
  rintro e w1 ⟨rfl, rfl⟩
  go_wp2_with fail
  refine (find_bad HC.out hx).mono ?_
  rintro e w1 ⟨rfl, rfl⟩
  go_wp2
  go_ret
  exact ⟨rfl, Dn.refl _⟩
/-- Why node i may not copy to node j. -/
def cpe (s : St) (i j : Nat) : Nat := if (s.nd i).down = true ∨ (s.nd j).down = true ∨ ldr (s.nd i) = false then 8 else if (s.nd i).cut = true ∨ (s.nd j).cut = true then 25 else if (s.nd i).ep < (s.nd j).ep then 26 else 0
set_option maxHeartbeats 1000000 in
theorem copy_e1 {B : Nat} {w : World} {h n : Nat} {s : St} {lv : Nat → Value} {cv : Value} (c : Gp B w h n s lv cv) {i j : Nat} (hi : i < n) (hj : j < n) (a0 : (s.nd i).down = true) :
    Calls Try.prog 15 #[.pointer (some ⟨h, 0, none⟩), .int .i64 (i : Int), .int .i64 (j : Int)] w fun e w' => e = .returned (.int .i64 8) ∧ Dn w w' := by
  have hn7 := c.n7
  have hi7 : i < 7 := by omega
  have hj7 : j < 7 := by omega
  obtain ⟨p0, p1, p2, _, _, _⟩ := c.at_ hi7
  obtain ⟨q0, q1, q2, _, _, _⟩ := c.at_ hj7
  rw [a0] at p0
  have HC := Lib.hid c
  clear c
  go_enter Try.func15, Try.ntmps15
  go_wp2_with fail
  refine (find_ok HC.out rfl hi).mono ?_
  rintro e w1 ⟨rfl, rfl⟩
  go_wp2_with fail
  refine (find_ok HC.out rfl hj).mono ?_
  rintro e w1 ⟨rfl, rfl⟩
  go_wp2
  go_ret
  exact ⟨rfl, Dn.refl _⟩
set_option maxHeartbeats 1000000 in
theorem copy_e2 {B : Nat} {w : World} {h n : Nat} {s : St} {lv : Nat → Value} {cv : Value} (c : Gp B w h n s lv cv) {i j : Nat} (hi : i < n) (hj : j < n) (a0 : (s.nd i).down = false) (b0 : (s.nd j).down = true) :
    Calls Try.prog 15 #[.pointer (some ⟨h, 0, none⟩), .int .i64 (i : Int), .int .i64 (j : Int)] w fun e w' => e = .returned (.int .i64 8) ∧ Dn w w' := by
  have hn7 := c.n7
  have hi7 : i < 7 := by omega
  have hj7 : j < 7 := by omega
  obtain ⟨p0, p1, p2, _, _, _⟩ := c.at_ hi7
  obtain ⟨q0, q1, q2, _, _, _⟩ := c.at_ hj7
  rw [a0] at p0
  rw [b0] at q0
  have HC := Lib.hid c
  clear c
  go_enter Try.func15, Try.ntmps15
  go_wp2_with fail
  refine (find_ok HC.out rfl hi).mono ?_
  rintro e w1 ⟨rfl, rfl⟩
  go_wp2_with fail
  refine (find_ok HC.out rfl hj).mono ?_
  rintro e w1 ⟨rfl, rfl⟩
  go_wp2
  go_ret
  exact ⟨rfl, Dn.refl _⟩
set_option maxHeartbeats 1000000 in
theorem copy_e3 {B : Nat} {w : World} {h n : Nat} {s : St} {lv : Nat → Value} {cv : Value} (c : Gp B w h n s lv cv) {i j : Nat} (hi : i < n) (hj : j < n) (a0 : (s.nd i).down = false) (b0 : (s.nd j).down = false) (hl : ldr (s.nd i) = false) :
    Calls Try.prog 15 #[.pointer (some ⟨h, 0, none⟩), .int .i64 (i : Int), .int .i64 (j : Int)] w fun e w' => e = .returned (.int .i64 8) ∧ Dn w w' := by
  have hn7 := c.n7
  have hi7 : i < 7 := by omega
  have hj7 : j < 7 := by omega
  obtain ⟨p0, p1, p2, _, _, _⟩ := c.at_ hi7
  obtain ⟨q0, q1, q2, _, _, _⟩ := c.at_ hj7
  have CL := leads_any c hi7
  rw [hl] at CL
  have HL := Lib.hid CL
  rw [a0] at p0
  rw [b0] at q0
  have HC := Lib.hid c
  clear c hl CL
  go_enter Try.func15, Try.ntmps15
  go_wp2_with fail
  refine (find_ok HC.out rfl hi).mono ?_
  rintro e w1 ⟨rfl, rfl⟩
  go_wp2_with fail
  refine (find_ok HC.out rfl hj).mono ?_
  rintro e w1 ⟨rfl, rfl⟩
  go_wp2_with fail
  refine HL.out.mono ?_
  rintro e w1 ⟨rfl, k1, rfl⟩
  go_wp2
  go_ret
  exact ⟨rfl, ⟨_, rfl⟩⟩
set_option maxHeartbeats 1000000 in
theorem copy_e4 {B : Nat} {w : World} {h n : Nat} {s : St} {lv : Nat → Value} {cv : Value} (c : Gp B w h n s lv cv) {i j : Nat} (hi : i < n) (hj : j < n) (a0 : (s.nd i).down = false) (b0 : (s.nd j).down = false) (hl : ldr (s.nd i) = true) (a1 : (s.nd i).cut = true) :
    Calls Try.prog 15 #[.pointer (some ⟨h, 0, none⟩), .int .i64 (i : Int), .int .i64 (j : Int)] w fun e w' => e = .returned (.int .i64 25) ∧ Dn w w' := by
  have hn7 := c.n7
  have hi7 : i < 7 := by omega
  have hj7 : j < 7 := by omega
  obtain ⟨p0, p1, p2, _, _, _⟩ := c.at_ hi7
  obtain ⟨q0, q1, q2, _, _, _⟩ := c.at_ hj7
  have CL := leads_any c hi7
  rw [hl] at CL
  have HL := Lib.hid CL
  rw [a0] at p0
  rw [b0] at q0
  rw [a1] at p1
  have HC := Lib.hid c
  clear c hl CL
  go_enter Try.func15, Try.ntmps15
  go_wp2_with fail
  refine (find_ok HC.out rfl hi).mono ?_
  rintro e w1 ⟨rfl, rfl⟩
  go_wp2_with fail
  refine (find_ok HC.out rfl hj).mono ?_
  rintro e w1 ⟨rfl, rfl⟩
  go_wp2_with fail
  refine HL.out.mono ?_
  rintro e w1 ⟨rfl, k1, rfl⟩
  go_wp2
  go_ret
  exact ⟨rfl, ⟨_, rfl⟩⟩
set_option maxHeartbeats 1000000 in
theorem copy_e5 {B : Nat} {w : World} {h n : Nat} {s : St} {lv : Nat → Value} {cv : Value} (c : Gp B w h n s lv cv) {i j : Nat} (hi : i < n) (hj : j < n) (a0 : (s.nd i).down = false) (b0 : (s.nd j).down = false) (hl : ldr (s.nd i) = true) (a1 : (s.nd i).cut = false) (b1 : (s.nd j).cut = true) :
    Calls Try.prog 15 #[.pointer (some ⟨h, 0, none⟩), .int .i64 (i : Int), .int .i64 (j : Int)] w fun e w' => e = .returned (.int .i64 25) ∧ Dn w w' := by
  have hn7 := c.n7
  have hi7 : i < 7 := by omega
  have hj7 : j < 7 := by omega
  obtain ⟨p0, p1, p2, _, _, _⟩ := c.at_ hi7
  obtain ⟨q0, q1, q2, _, _, _⟩ := c.at_ hj7
  have CL := leads_any c hi7
  rw [hl] at CL
  have HL := Lib.hid CL
  rw [a0] at p0
  rw [b0] at q0
  rw [a1] at p1
  rw [b1] at q1
  have HC := Lib.hid c
  clear c hl CL
  go_enter Try.func15, Try.ntmps15
  go_wp2_with fail
  refine (find_ok HC.out rfl hi).mono ?_
  rintro e w1 ⟨rfl, rfl⟩
  go_wp2_with fail
  refine (find_ok HC.out rfl hj).mono ?_
  rintro e w1 ⟨rfl, rfl⟩
  go_wp2_with fail
  refine HL.out.mono ?_
  rintro e w1 ⟨rfl, k1, rfl⟩
  go_wp2
  go_ret
  exact ⟨rfl, ⟨_, rfl⟩⟩
set_option maxHeartbeats 1000000 in
theorem copy_e6 {B : Nat} {w : World} {h n : Nat} {s : St} {lv : Nat → Value} {cv : Value} (c : Gp B w h n s lv cv) {i j : Nat} (hi : i < n) (hj : j < n) (a0 : (s.nd i).down = false) (b0 : (s.nd j).down = false) (hl : ldr (s.nd i) = true) (a1 : (s.nd i).cut = false) (b1 : (s.nd j).cut = false) (he : (s.nd i).ep < (s.nd j).ep) :
    Calls Try.prog 15 #[.pointer (some ⟨h, 0, none⟩), .int .i64 (i : Int), .int .i64 (j : Int)] w fun e w' => e = .returned (.int .i64 26) ∧ Dn w w' := by
  have hn7 := c.n7
  have hi7 : i < 7 := by omega
  have hj7 : j < 7 := by omega
  obtain ⟨p0, p1, p2, _, _, _⟩ := c.at_ hi7
  obtain ⟨q0, q1, q2, _, _, _⟩ := c.at_ hj7
  have CL := leads_any c hi7
  rw [hl] at CL
  have HL := Lib.hid CL
  rw [a0] at p0
  rw [b0] at q0
  rw [a1] at p1
  rw [b1] at q1
  have he2 : decide (((s.nd i).ep : Int) < ((s.nd j).ep : Int)) = true := by simp; exact he
  have HC := Lib.hid c
  clear c hl CL
  go_enter Try.func15, Try.ntmps15
  go_wp2_with fail
  refine (find_ok HC.out rfl hi).mono ?_
  rintro e w1 ⟨rfl, rfl⟩
  go_wp2_with fail
  refine (find_ok HC.out rfl hj).mono ?_
  rintro e w1 ⟨rfl, rfl⟩
  go_wp2_with fail
  refine HL.out.mono ?_
  rintro e w1 ⟨rfl, k1, rfl⟩
  go_wp2
  go_quiet (fail)
  go_wp2
  go_ret
  exact ⟨rfl, ⟨k1 + nq, by simp [World.drewN, Nat.add_assoc]⟩⟩
theorem copy_no {B : Nat} {w : World} {h n : Nat} {s : St} {lv : Nat → Value} {cv : Value} (c : Gp B w h n s lv cv) {i j y : Nat} (hi : i < n) (hj : j < n) (hy : cpe s i j = y) (h0 : y ≠ 0) :
    Calls Try.prog 15 #[.pointer (some ⟨h, 0, none⟩), .int .i64 (i : Int), .int .i64 (j : Int)] w fun e w' => e = .returned (.int .i64 (y : Int)) ∧ Dn w w' := by
  subst hy
  unfold cpe at h0 ⊢
  cases a0 : (s.nd i).down with
  | true => rw [if_pos (.inl rfl)]; exact copy_e1 c hi hj a0
  | false =>
    cases b0 : (s.nd j).down with
    | true => rw [if_pos (.inr (.inl rfl))]; exact copy_e2 c hi hj a0 b0
    | false =>
      cases hl : ldr (s.nd i) with
      | false => simp only [a0, b0, hl] at h0 ⊢; simp; exact copy_e3 c hi hj a0 b0 hl
      | true =>
        simp only [a0, b0, hl] at h0 ⊢
        cases a1 : (s.nd i).cut with
        | true => simp; exact copy_e4 c hi hj a0 b0 hl a1
        | false =>
          cases b1 : (s.nd j).cut with
          | true => simp; exact copy_e5 c hi hj a0 b0 hl a1 b1
          | false =>
            by_cases he : (s.nd i).ep < (s.nd j).ep
            · simp [he]; exact copy_e6 c hi hj a0 b0 hl a1 b1 he
            · simp [a1, b1, he] at h0
end Rp
end Go.Proofs.Ytdbpbpnbcjbchaa
