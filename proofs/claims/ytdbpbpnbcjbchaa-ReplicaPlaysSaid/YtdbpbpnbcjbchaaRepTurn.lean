/- The walks of Fail, Restart, Cut, Join. -/
import Derived.Test.YtdbpbpnbcjbchaaRepMark
set_option linter.unusedVariables false
namespace Go.Proofs.Ytdbpbpnbcjbchaa
open Go.RowKit
namespace Rp
set_option maxHeartbeats 1000000 in
theorem cut_ok {B : Nat} {w : World} {h n : Nat} {s : St} {lv : Nat → Value} {cv : Value} (c : Gp B w h n s lv cv) {i : Nat} (hi : i < n) (hd : (s.nd i).cut = false) :
    Calls Try.prog 18 #[.pointer (some ⟨h, 0, none⟩), .int .i64 (i : Int)] w fun e w' => e = .returned (.int .i64 0) ∧ Gp B w' h n (setN s i { s.nd i with cut := true }) lv cv ∧ w.grownBy w' (some h) := by
  have hn7 := c.n7
  have hi7 : i < 7 := by omega
  obtain ⟨h0, h1, _⟩ := c.at_ hi7
  rw [hd] at h1
  obtain ⟨f0, f1, f3⟩ : w.frozen? ⟨h, 1 + i * 5, none⟩ = false ∧ w.frozen? ⟨h, 1 + i * 5 + 1, none⟩ = false ∧ w.frozen? ⟨h, 1 + i * 5 + 3, none⟩ = false := ⟨(c.blk.at_ (k := 1 + i * 5) (by omega)).2, (c.blk.at_ (k := 1 + i * 5 + 1) (by omega)).2, (c.blk.at_ (k := 1 + i * 5 + 3) (by omega)).2⟩
  have C2 := Lib.hid (c.put (k := 1) (u := .bool true) (d := { s.nd i with cut := true }) hi7 rfl (c.e i hi7) (gcell_set n s lv cv hi7 (by omega) (by simp) (by simp) (by simp) (by simp)))
  have HC := Lib.hid c
  clear c
  go_enter Try.func18, Try.ntmps18
  go_wp2_with fail
  refine (find_ok HC.out rfl hi).mono ?_
  rintro e w1 ⟨rfl, rfl⟩
  go_wp2
  go_ret
  exact ⟨rfl, C2.out, only_set (only_refl w h) _ _⟩
set_option maxHeartbeats 1000000 in
theorem cut_no {B : Nat} {w : World} {h n : Nat} {s : St} {lv : Nat → Value} {cv : Value} (c : Gp B w h n s lv cv) {i : Nat} (hi : i < n) (hd : (s.nd i).cut = true) :
    Calls Try.prog 18 #[.pointer (some ⟨h, 0, none⟩), .int .i64 (i : Int)] w fun e w' => e = .returned (.int .i64 8) ∧ w = w' := by
  have hn7 := c.n7
  obtain ⟨h0, h1, _⟩ := c.at_ (i := i) (by omega)
  rw [hd] at h1
  have HC := Lib.hid c
  clear c
  go_enter Try.func18, Try.ntmps18
  go_wp2_with fail
  refine (find_ok HC.out rfl hi).mono ?_
  rintro e w1 ⟨rfl, rfl⟩
  go_wp2
  go_ret
  exact ⟨rfl, rfl⟩
set_option maxHeartbeats 1000000 in
theorem cut_bad {B : Nat} {w : World} {h n : Nat} {s : St} {lv : Nat → Value} {cv : Value} (c : Gp B w h n s lv cv) {x : Int} (hx : x < 0 ∨ (n : Int) ≤ x) :
    Calls Try.prog 18 #[.pointer (some ⟨h, 0, none⟩), .int .i64 x] w fun e w' => e = .returned (.int .i64 2) ∧ w = w' := by
  have HC := Lib.hid c
  clear c
  go_enter Try.func18, Try.ntmps18
  go_wp2_with fail
  refine (find_bad HC.out hx).mono ?_
  rintro e w1 ⟨rfl, rfl⟩
  go_wp2
  go_ret
  exact ⟨rfl, rfl⟩
set_option maxHeartbeats 1000000 in
theorem join_ok {B : Nat} {w : World} {h n : Nat} {s : St} {lv : Nat → Value} {cv : Value} (c : Gp B w h n s lv cv) {i : Nat} (hi : i < n) (hd : (s.nd i).cut = true) :
    Calls Try.prog 19 #[.pointer (some ⟨h, 0, none⟩), .int .i64 (i : Int)] w fun e w' => e = .returned (.int .i64 0) ∧ Gp B w' h n (setN s i { s.nd i with cut := false }) lv cv ∧ w.grownBy w' (some h) := by
  have hn7 := c.n7
  have hi7 : i < 7 := by omega
  obtain ⟨h0, h1, _⟩ := c.at_ hi7
  rw [hd] at h1
  obtain ⟨f0, f1, f3⟩ : w.frozen? ⟨h, 1 + i * 5, none⟩ = false ∧ w.frozen? ⟨h, 1 + i * 5 + 1, none⟩ = false ∧ w.frozen? ⟨h, 1 + i * 5 + 3, none⟩ = false := ⟨(c.blk.at_ (k := 1 + i * 5) (by omega)).2, (c.blk.at_ (k := 1 + i * 5 + 1) (by omega)).2, (c.blk.at_ (k := 1 + i * 5 + 3) (by omega)).2⟩
  have C2 := Lib.hid (c.put (k := 1) (u := .bool false) (d := { s.nd i with cut := false }) hi7 rfl (c.e i hi7) (gcell_set n s lv cv hi7 (by omega) (by simp) (by simp) (by simp) (by simp)))
  have HC := Lib.hid c
  clear c
  go_enter Try.func19, Try.ntmps19
  go_wp2_with fail
  refine (find_ok HC.out rfl hi).mono ?_
  rintro e w1 ⟨rfl, rfl⟩
  go_wp2
  go_ret
  exact ⟨rfl, C2.out, only_set (only_refl w h) _ _⟩
set_option maxHeartbeats 1000000 in
theorem join_no {B : Nat} {w : World} {h n : Nat} {s : St} {lv : Nat → Value} {cv : Value} (c : Gp B w h n s lv cv) {i : Nat} (hi : i < n) (hd : (s.nd i).cut = false) :
    Calls Try.prog 19 #[.pointer (some ⟨h, 0, none⟩), .int .i64 (i : Int)] w fun e w' => e = .returned (.int .i64 8) ∧ w = w' := by
  have hn7 := c.n7
  obtain ⟨h0, h1, _⟩ := c.at_ (i := i) (by omega)
  rw [hd] at h1
  have HC := Lib.hid c
  clear c
  go_enter Try.func19, Try.ntmps19
  go_wp2_with fail
  refine (find_ok HC.out rfl hi).mono ?_
  rintro e w1 ⟨rfl, rfl⟩
  go_wp2
  go_ret
  exact ⟨rfl, rfl⟩
set_option maxHeartbeats 1000000 in
theorem join_bad {B : Nat} {w : World} {h n : Nat} {s : St} {lv : Nat → Value} {cv : Value} (c : Gp B w h n s lv cv) {x : Int} (hx : x < 0 ∨ (n : Int) ≤ x) :
    Calls Try.prog 19 #[.pointer (some ⟨h, 0, none⟩), .int .i64 x] w fun e w' => e = .returned (.int .i64 2) ∧ w = w' := by
  have HC := Lib.hid c
  clear c
  go_enter Try.func19, Try.ntmps19
  go_wp2_with fail
  refine (find_bad HC.out hx).mono ?_
  rintro e w1 ⟨rfl, rfl⟩
  go_wp2
  go_ret
  exact ⟨rfl, rfl⟩
set_option maxHeartbeats 1000000 in
theorem restart_ok {B : Nat} {w : World} {h n : Nat} {s : St} {lv : Nat → Value} {cv : Value} (c : Gp B w h n s lv cv) {i : Nat} (hi : i < n) (hd : (s.nd i).down = true) :
    Calls Try.prog 34 #[.pointer (some ⟨h, 0, none⟩), .int .i64 (i : Int)] w fun e w' => e = .returned (.int .i64 0) ∧ Gp B w' h n (setN s i { s.nd i with down := false }) lv cv ∧ w.grownBy w' (some h) := by
  have hn7 := c.n7
  have hi7 : i < 7 := by omega
  obtain ⟨h0, h1, _⟩ := c.at_ hi7
  rw [hd] at h0
  obtain ⟨f0, f1, f3⟩ : w.frozen? ⟨h, 1 + i * 5, none⟩ = false ∧ w.frozen? ⟨h, 1 + i * 5 + 1, none⟩ = false ∧ w.frozen? ⟨h, 1 + i * 5 + 3, none⟩ = false := ⟨(c.blk.at_ (k := 1 + i * 5) (by omega)).2, (c.blk.at_ (k := 1 + i * 5 + 1) (by omega)).2, (c.blk.at_ (k := 1 + i * 5 + 3) (by omega)).2⟩
  have C2 := Lib.hid (c.put (k := 0) (u := .bool false) (d := { s.nd i with down := false }) hi7 rfl (c.e i hi7) (gcell_set n s lv cv hi7 (by omega) (by simp) (by simp) (by simp) (by simp)))
  have HC := Lib.hid c
  clear c
  go_enter Try.func34, Try.ntmps34
  go_wp2_with fail
  refine (find_ok HC.out rfl hi).mono ?_
  rintro e w1 ⟨rfl, rfl⟩
  go_wp2
  go_ret
  exact ⟨rfl, C2.out, only_set (only_refl w h) _ _⟩
set_option maxHeartbeats 1000000 in
theorem restart_no {B : Nat} {w : World} {h n : Nat} {s : St} {lv : Nat → Value} {cv : Value} (c : Gp B w h n s lv cv) {i : Nat} (hi : i < n) (hd : (s.nd i).down = false) :
    Calls Try.prog 34 #[.pointer (some ⟨h, 0, none⟩), .int .i64 (i : Int)] w fun e w' => e = .returned (.int .i64 8) ∧ w = w' := by
  have hn7 := c.n7
  obtain ⟨h0, h1, _⟩ := c.at_ (i := i) (by omega)
  rw [hd] at h0
  have HC := Lib.hid c
  clear c
  go_enter Try.func34, Try.ntmps34
  go_wp2_with fail
  refine (find_ok HC.out rfl hi).mono ?_
  rintro e w1 ⟨rfl, rfl⟩
  go_wp2
  go_ret
  exact ⟨rfl, rfl⟩
set_option maxHeartbeats 1000000 in
theorem restart_bad {B : Nat} {w : World} {h n : Nat} {s : St} {lv : Nat → Value} {cv : Value} (c : Gp B w h n s lv cv) {x : Int} (hx : x < 0 ∨ (n : Int) ≤ x) :
    Calls Try.prog 34 #[.pointer (some ⟨h, 0, none⟩), .int .i64 x] w fun e w' => e = .returned (.int .i64 2) ∧ w = w' := by
  have HC := Lib.hid c
  clear c
  go_enter Try.func34, Try.ntmps34
  go_wp2_with fail
  refine (find_bad HC.out hx).mono ?_
  rintro e w1 ⟨rfl, rfl⟩
  go_wp2
  go_ret
  exact ⟨rfl, rfl⟩
set_option maxHeartbeats 1000000 in
theorem fail_ok {B : Nat} {w : World} {h n : Nat} {s : St} {lv : Nat → Value} {cv : Value} (c : Gp B w h n s lv cv) {i : Nat} (hi : i < n) (hd : (s.nd i).down = false) :
    Calls Try.prog 33 #[.pointer (some ⟨h, 0, none⟩), .int .i64 (i : Int)] w fun e w' => e = .returned (.int .i64 0) ∧ Gp B w' h n (setN s i { s.nd i with down := true, led := 0 }) lv cv ∧ w.grownBy w' (some h) := by
  have hn7 := c.n7
  have hi7 : i < 7 := by omega
  obtain ⟨h0, h1, _⟩ := c.at_ hi7
  rw [hd] at h0
  obtain ⟨f0, f1, f3⟩ : w.frozen? ⟨h, 1 + i * 5, none⟩ = false ∧ w.frozen? ⟨h, 1 + i * 5 + 1, none⟩ = false ∧ w.frozen? ⟨h, 1 + i * 5 + 3, none⟩ = false := ⟨(c.blk.at_ (k := 1 + i * 5) (by omega)).2, (c.blk.at_ (k := 1 + i * 5 + 1) (by omega)).2, (c.blk.at_ (k := 1 + i * 5 + 3) (by omega)).2⟩
  obtain ⟨_, _, _, h3, _⟩ := c.at_ hi7
  have c1 := c.put (k := 0) (u := .bool true) (d := { s.nd i with down := true }) hi7 rfl (c.e i hi7) (gcell_set n s lv cv hi7 (by omega) (by simp) (by simp) (by simp) (by simp))
  have g3 : (w.setCell ⟨h, 1 + i * 5, none⟩ (.bool true)).cell? ⟨h, 1 + i * 5 + 3, none⟩ = some (.int .i64 ((s.nd i).led : Int)) := by
    rw [World.cell?_setCell_other w ⟨h, 1 + i * 5, none⟩ ⟨h, 1 + i * 5 + 3, none⟩ _ (by intro e; injection e with e1 e2; omega)]; exact h3
  have fz3 : (w.setCell ⟨h, 1 + i * 5, none⟩ (.bool true)).frozen? ⟨h, 1 + i * 5 + 3, none⟩ = false := (c1.blk.at_ (k := 1 + i * 5 + 3) (by omega)).2
  have c2 := c1.put (k := 3) (u := .int .i64 0) (d := { s.nd i with down := true, led := 0 }) hi7 (by rw [setN_at]) ⟨(c.e i hi7).1, by simp⟩ (gcell_set n (setN s i { s.nd i with down := true }) lv cv hi7 (by omega) (by rw [setN_at]; simp) (by rw [setN_at]; simp) (by rw [setN_at]; simp) (by simp))
  have hs : setN (setN s i { s.nd i with down := true }) i { s.nd i with down := true, led := 0 } = setN s i { s.nd i with down := true, led := 0 } := by
    unfold setN; congr 1; funext k; dsimp only; split <;> rfl
  rw [hs] at c2
  have C2 := Lib.hid c2
  have HC := Lib.hid c
  clear c c1 c2 hs
  go_enter Try.func33, Try.ntmps33
  go_wp2_with fail
  refine (find_ok HC.out rfl hi).mono ?_
  rintro e w1 ⟨rfl, rfl⟩
  go_wp2
  go_ret
  exact ⟨rfl, C2.out, only_set (only_set (only_refl w h) _ _) _ _⟩
set_option maxHeartbeats 1000000 in
theorem fail_no {B : Nat} {w : World} {h n : Nat} {s : St} {lv : Nat → Value} {cv : Value} (c : Gp B w h n s lv cv) {i : Nat} (hi : i < n) (hd : (s.nd i).down = true) :
    Calls Try.prog 33 #[.pointer (some ⟨h, 0, none⟩), .int .i64 (i : Int)] w fun e w' => e = .returned (.int .i64 8) ∧ w = w' := by
  have hn7 := c.n7
  obtain ⟨h0, h1, _⟩ := c.at_ (i := i) (by omega)
  rw [hd] at h0
  have HC := Lib.hid c
  clear c
  go_enter Try.func33, Try.ntmps33
  go_wp2_with fail
  refine (find_ok HC.out rfl hi).mono ?_
  rintro e w1 ⟨rfl, rfl⟩
  go_wp2
  go_ret
  exact ⟨rfl, rfl⟩
set_option maxHeartbeats 1000000 in
theorem fail_bad {B : Nat} {w : World} {h n : Nat} {s : St} {lv : Nat → Value} {cv : Value} (c : Gp B w h n s lv cv) {x : Int} (hx : x < 0 ∨ (n : Int) ≤ x) :
    Calls Try.prog 33 #[.pointer (some ⟨h, 0, none⟩), .int .i64 x] w fun e w' => e = .returned (.int .i64 2) ∧ w = w' := by
  have HC := Lib.hid c
  clear c
  go_enter Try.func33, Try.ntmps33
  go_wp2_with fail
  refine (find_bad HC.out hx).mono ?_
  rintro e w1 ⟨rfl, rfl⟩
  go_wp2
  go_ret
  exact ⟨rfl, rfl⟩
end Rp
end Go.Proofs.Ytdbpbpnbcjbchaa
