/- The walks of the retailer's account: Sale, Refund, Cash. -/
import Derived.Test.YtpalmlcepppifaaBase2
import Derived.Test.YtpalmlcepppifaaRetPlain
import Derived.Test.YtpalmlcepppifaaTaxPart
import Derived.Test.YtpalmlcepppifaaMoney
set_option linter.unusedVariables false
namespace Go.Proofs.Ytpalmlcepppifaa
open Go.RowKit

/-- The account's cells. -/
def objC (t : Rt.Tm) (x : Rt.St) : Array Value := #[.int .i64 x.s, .int .i64 x.r, .int .i64 x.c, .int .i64 t.sale, .int .i64 t.cash, .int .i64 t.bonus, .int .i64 t.above, .int .i64 t.credit]
/-- Block g is an account with these terms and sums. -/
def Obj (w : World) (g : Nat) (t : Rt.Tm) (x : Rt.St) : Prop := Blk w g 85 (objC t x)
theorem Obj.at_ {w : World} {g : Nat} {t : Rt.Tm} {x : Rt.St} (h : Obj w g t x) :
    w.cell? ⟨g, 0, none⟩ = some (.int .i64 x.s) ∧ w.cell? ⟨g, 1, none⟩ = some (.int .i64 x.r) ∧ w.cell? ⟨g, 2, none⟩ = some (.int .i64 x.c) ∧
    w.cell? ⟨g, 3, none⟩ = some (.int .i64 t.sale) ∧ w.cell? ⟨g, 4, none⟩ = some (.int .i64 t.cash) ∧ w.cell? ⟨g, 5, none⟩ = some (.int .i64 t.bonus) ∧
    w.cell? ⟨g, 6, none⟩ = some (.int .i64 t.above) ∧ w.cell? ⟨g, 7, none⟩ = some (.int .i64 t.credit) ∧
    w.frozen? ⟨g, 0, none⟩ = false ∧ w.frozen? ⟨g, 1, none⟩ = false ∧ w.frozen? ⟨g, 2, none⟩ = false :=
  ⟨h.cell 0, h.cell 1, h.cell 2, h.cell 3, h.cell 4, h.cell 5, h.cell 6, h.cell 7, h.frozen 0, h.frozen 1, h.frozen 2⟩

theorem room_any {m a : Int} {w : World} (h0 : 0 ≤ m) (h1 : m ≤ 1000000000000) :
    Calls Try.prog 55 #[.int .i64 m, .int .i64 a] w fun e w' => e = .returned (.int .i64 (Rt.room m a)) ∧ w = w' := by
  by_cases c : 0 ≤ a ∧ a ≤ 1000000000000
  · obtain ⟨c0, c1⟩ := c
    by_cases d : 1000000000000 < m + a
    · go_enter Try.func55, Try.ntmps55
      go_wp2_with fail
      refine (valid_yes _ _ c0 c1).mono ?_
      rintro e w1 ⟨rfl, rfl⟩
      go_wp2
      go_ret
      exact ⟨ret_int (Rt.room_over c0 c1 d).symm, rfl⟩
    · go_enter Try.func55, Try.ntmps55
      go_wp2_with fail
      refine (valid_yes _ _ c0 c1).mono ?_
      rintro e w1 ⟨rfl, rfl⟩
      go_wp2
      go_ret
      exact ⟨ret_int (Rt.room_yes c0 c1 (by omega)).symm, rfl⟩
  · have c' : a < 0 ∨ 1000000000000 < a := by omega
    have HC := Lib.hid c'
    clear c c'
    go_enter Try.func55, Try.ntmps55
    go_wp2_with fail
    refine (valid_no _ _ HC.out).mono ?_
    rintro e w1 ⟨rfl, rfl⟩
    go_wp2
    go_ret
    exact ⟨ret_int (Rt.room_range HC.out).symm, rfl⟩
theorem room_at {m a y : Int} {w : World} (h0 : 0 ≤ m) (h1 : m ≤ 1000000000000) (hy : Rt.room m a = y) :
    Calls Try.prog 55 #[.int .i64 m, .int .i64 a] w fun e w' => e = .returned (.int .i64 y) ∧ w = w' := by
  subst hy; exact room_any h0 h1

/-- A pointer to a sum: grow. -/
theorem grow_ok {m a : Int} {w : World} {g i : Nat} (hc : w.cell? ⟨g, i, none⟩ = some (.int .i64 m)) (hf : w.frozen? ⟨g, i, none⟩ = false) (h0 : 0 ≤ m) (h1 : m ≤ 1000000000000) (hy : Rt.room m a = 0) :
    Calls Try.prog 57 #[.pointer (some ⟨g, i, none⟩), .int .i64 a] w fun e w' => e = .returned (.int .i64 0) ∧ w.setCell ⟨g, i, none⟩ (.int .i64 (m + a)) = w' := by
  obtain ⟨a0, a1, a2⟩ := Rt.room_ok hy
  have HY := Lib.hid hy
  clear hy
  go_enter Try.func57, Try.ntmps57
  go_wp2_with fail
  refine (room_at h0 h1 HY.out).mono ?_
  rintro e w1 ⟨rfl, rfl⟩
  go_wp2
  go_ret
  exact ⟨rfl, rfl⟩
theorem grow_no {m a y : Int} {w : World} {g i : Nat} (hc : w.cell? ⟨g, i, none⟩ = some (.int .i64 m)) (h0 : 0 ≤ m) (h1 : m ≤ 1000000000000) (hy : Rt.room m a = y) (hn : y ≠ 0) :
    Calls Try.prog 57 #[.pointer (some ⟨g, i, none⟩), .int .i64 a] w fun e w' => e = .returned (.int .i64 y) ∧ w = w' := by
  have HY := Lib.hid hy
  clear hy
  go_enter Try.func57, Try.ntmps57
  go_wp2_with fail
  refine (room_at h0 h1 HY.out).mono ?_
  rintro e w1 ⟨rfl, rfl⟩
  go_wp2
  go_ret
  exact ⟨rfl, rfl⟩

theorem net_any {s r : Int} {w : World} {g : Nat} (hc0 : w.cell? ⟨g, 0, none⟩ = some (.int .i64 s)) (hc1 : w.cell? ⟨g, 1, none⟩ = some (.int .i64 r)) (h0 : 0 ≤ s) (h1 : s ≤ 1000000000000) (h2 : 0 ≤ r) (h3 : r ≤ 1000000000000) :
    Calls Try.prog 56 #[.pointer (some ⟨g, 0, none⟩)] w fun e w' => e = .returned (.int .i64 (s - r)) ∧ ∃ n, w' = w.drewN n := by
  go_enter Try.func56, Try.ntmps56
  go_wp2
  go_quiet (fail)
  go_wp2
  go_ret
  exact ⟨rfl, _, rfl⟩

/-- What a call of an account leaves: the account as said, and nothing older turned. -/
def Left (w : World) (g : Nat) (t : Rt.Tm) (x : Rt.St) (y : Int) (e : Ending) (w' : World) : Prop :=
  e = .returned (.int .i64 y) ∧ Obj w' g t x ∧ w.grownBy w' (some g)
theorem Left.same {w : World} {g n : Nat} {t : Rt.Tm} {x : Rt.St} {y : Int} (h : Obj w g t x) : Left w g t x y (.returned (.int .i64 y)) (w.drewN n) :=
  ⟨rfl, h.drewN n, only_drewN (only_refl w g) n⟩

set_option maxHeartbeats 1000000 in
theorem sale_any {a : Int} {w : World} {g : Nat} {t : Rt.Tm} {x : Rt.St} (h : Obj w g t x) (ht : Rt.okT t) (hx : Rt.okS x) :
    Calls Try.prog 32 #[.pointer (some ⟨g, 0, none⟩), .int .i64 a] w (Left w g t (Rt.nxt t x 0 a) (Rt.sErr t x a)) := by
  obtain ⟨q0, q1, q2, q3, q4, q5, q6, q7, f0, f1, f2⟩ := h.at_
  have H := Lib.hid h
  obtain ⟨⟨s0, s1⟩, ⟨r0, r1⟩, ⟨c0, c1⟩⟩ := hx
  obtain ⟨_, _, _, _, ⟨k0, k1⟩⟩ := ht
  clear h
  by_cases hr : Rt.room x.s a = 0
  · obtain ⟨a0, a1, a2⟩ := Rt.room_ok hr
    by_cases hk : t.credit = 0
    · have hn : Rt.nxt t x 0 a = ⟨x.s + a, x.r, x.c⟩ := by unfold Rt.nxt; rw [if_pos rfl, if_pos (Rt.sErr_yes hr (.inl hk))]
      have he : Rt.sErr t x a = 0 := Rt.sErr_yes hr (.inl hk)
      rw [hn, he]
      have hd : (t.credit != 0) = false := by simp [hk]
      have HR := Lib.hid hr
      clear hn he hr hk
      go_enter Try.func32, Try.ntmps32
      go_wp2_with fail
      refine (room_at s0 s1 HR.out).mono ?_
      rintro e w1 ⟨rfl, rfl⟩
      go_wp2_with fail
      go_quiet ((go_at_call 56; exact Calls.quiet_of (net_any q0 q1 s0 s1 r0 r1)))
      go_wp2
      go_ret
      exact ⟨rfl, (H.out.drewN nq).set_ 0 _, only_set (only_drewN (only_refl _ g) _) 0 _⟩
    · have hd : (t.credit != 0) = true := by simp [hk]
      by_cases hc : t.credit < x.s - x.r + a - x.c
      · have he : Rt.sErr t x a = 32 := Rt.sErr_credit hr hk hc
        have hn : Rt.nxt t x 0 a = x := by unfold Rt.nxt; rw [if_pos rfl, if_neg (by rw [he]; decide)]
        rw [hn, he]
        have HR := Lib.hid hr
        clear hn he hr
        go_enter Try.func32, Try.ntmps32
        go_wp2_with fail
        refine (room_at s0 s1 HR.out).mono ?_
        rintro e w1 ⟨rfl, rfl⟩
        go_wp2_with fail
        go_quiet ((go_at_call 56; exact Calls.quiet_of (net_any q0 q1 s0 s1 r0 r1)))
        go_wp2
        go_ret
        exact Left.same H.out
      · have hle : x.s - x.r + a - x.c ≤ t.credit := by omega
        have he : Rt.sErr t x a = 0 := Rt.sErr_yes hr (.inr hle)
        have hn : Rt.nxt t x 0 a = ⟨x.s + a, x.r, x.c⟩ := by unfold Rt.nxt; rw [if_pos rfl, if_pos he]
        rw [hn, he]
        have HR := Lib.hid hr
        clear hn he hr hc
        go_enter Try.func32, Try.ntmps32
        go_wp2_with fail
        refine (room_at s0 s1 HR.out).mono ?_
        rintro e w1 ⟨rfl, rfl⟩
        go_wp2_with fail
        go_quiet ((go_at_call 56; exact Calls.quiet_of (net_any q0 q1 s0 s1 r0 r1)))
        go_wp2
        go_ret
        exact ⟨rfl, (H.out.drewN nq).set_ 0 _, only_set (only_drewN (only_refl _ g) _) 0 _⟩
  · have he : Rt.sErr t x a = Rt.room x.s a := Rt.sErr_room hr
    have hn : Rt.nxt t x 0 a = x := by unfold Rt.nxt; rw [if_pos rfl, if_neg (by rw [he]; exact hr)]
    rw [hn, he]
    obtain ⟨y, hy⟩ : ∃ y, Rt.room x.s a = y := ⟨_, rfl⟩
    rw [hy] at hr ⊢
    have HY := Lib.hid hy
    clear hn he hy
    go_enter Try.func32, Try.ntmps32
    go_wp2_with fail
    refine (room_at s0 s1 HY.out).mono ?_
    rintro e w1 ⟨rfl, rfl⟩
    go_wp2
    go_ret
    exact Left.same (n := 0) H.out
theorem refund_any {a : Int} {w : World} {g : Nat} {t : Rt.Tm} {x : Rt.St} (h : Obj w g t x) (hx : Rt.okS x) :
    Calls Try.prog 33 #[.pointer (some ⟨g, 0, none⟩), .int .i64 a] w (Left w g t (Rt.nxt t x 1 a) (Rt.room x.r a)) := by
  obtain ⟨q0, q1, q2, q3, q4, q5, q6, q7, f0, f1, f2⟩ := h.at_
  have H := Lib.hid h
  obtain ⟨⟨s0, s1⟩, ⟨r0, r1⟩, ⟨c0, c1⟩⟩ := hx
  clear h
  by_cases hr : Rt.room x.r a = 0
  · have hn : Rt.nxt t x 1 a = ⟨x.s, x.r + a, x.c⟩ := by unfold Rt.nxt; rw [if_neg (by decide), if_pos rfl, if_pos hr]
    rw [hn, hr]
    have HR := Lib.hid hr
    clear hn hr
    go_enter Try.func33, Try.ntmps33
    go_wp2_with fail
    refine (grow_ok q1 f1 r0 r1 HR.out).mono ?_
    rintro e w1 ⟨rfl, rfl⟩
    go_wp2
    go_ret
    exact ⟨rfl, H.out.set_ 1 _, only_set (only_refl _ g) 1 _⟩
  · have hn : Rt.nxt t x 1 a = x := by unfold Rt.nxt; rw [if_neg (by decide), if_pos rfl, if_neg hr]
    rw [hn]
    obtain ⟨y, hy⟩ : ∃ y, Rt.room x.r a = y := ⟨_, rfl⟩
    rw [hy] at hr ⊢
    have HY := Lib.hid hy
    clear hn hy
    go_enter Try.func33, Try.ntmps33
    go_wp2_with fail
    refine (grow_no q1 r0 r1 HY.out hr).mono ?_
    rintro e w1 ⟨rfl, rfl⟩
    go_wp2
    go_ret
    exact Left.same (n := 0) H.out
theorem cash_any {a : Int} {w : World} {g : Nat} {t : Rt.Tm} {x : Rt.St} (h : Obj w g t x) (hx : Rt.okS x) :
    Calls Try.prog 34 #[.pointer (some ⟨g, 0, none⟩), .int .i64 a] w (Left w g t (Rt.nxt t x 2 a) (Rt.room x.c a)) := by
  obtain ⟨q0, q1, q2, q3, q4, q5, q6, q7, f0, f1, f2⟩ := h.at_
  have H := Lib.hid h
  obtain ⟨⟨s0, s1⟩, ⟨r0, r1⟩, ⟨c0, c1⟩⟩ := hx
  clear h
  by_cases hr : Rt.room x.c a = 0
  · have hn : Rt.nxt t x 2 a = ⟨x.s, x.r, x.c + a⟩ := by unfold Rt.nxt; rw [if_neg (by decide), if_neg (by decide), if_pos rfl, if_pos hr]
    rw [hn, hr]
    have HR := Lib.hid hr
    clear hn hr
    go_enter Try.func34, Try.ntmps34
    go_wp2_with fail
    refine (grow_ok q2 f2 c0 c1 HR.out).mono ?_
    rintro e w1 ⟨rfl, rfl⟩
    go_wp2
    go_ret
    exact ⟨rfl, H.out.set_ 2 _, only_set (only_refl _ g) 2 _⟩
  · have hn : Rt.nxt t x 2 a = x := by unfold Rt.nxt; rw [if_neg (by decide), if_neg (by decide), if_pos rfl, if_neg hr]
    rw [hn]
    obtain ⟨y, hy⟩ : ∃ y, Rt.room x.c a = y := ⟨_, rfl⟩
    rw [hy] at hr ⊢
    have HY := Lib.hid hy
    clear hn hy
    go_enter Try.func34, Try.ntmps34
    go_wp2_with fail
    refine (grow_no q2 c0 c1 HY.out hr).mono ?_
    rintro e w1 ⟨rfl, rfl⟩
    go_wp2
    go_ret
    exact Left.same (n := 0) H.out
end Go.Proofs.Ytpalmlcepppifaa
