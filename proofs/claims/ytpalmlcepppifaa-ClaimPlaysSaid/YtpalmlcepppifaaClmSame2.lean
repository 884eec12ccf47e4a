/- The walk of same: the other kinds of acts. -/
import Derived.Test.YtpalmlcepppifaaClmSame
set_option linter.unusedVariables false
namespace Go.Proofs.Ytpalmlcepppifaa
open Go.RowKit Go.Maps Go.ChangeShapes Go.WideElems Go.WideMaps

set_option maxHeartbeats 4000000 in
set_option maxRecDepth 100000 in
theorem same_exp {W w : World} {P0 P1 R0 R1 : World → Prop} {h r : Nat} {a : Ac} {y : Int} (hk : a.k ≠ 0 ∧ a.k ≠ 1 ∧ a.k ≠ 2) (sP : Stays P0) (sR : Stays R0) (hp : P0 w) (hr : R0 w) (hb : Below W.heap.size W w)
    (a0 : ∀ w1 q, Sd W P0 R0 q a w1 → Calls Try.prog 37 #[.pointer (some ⟨h, 0, none⟩), .int .i64 a.at_] w1 fun e w' => e = .returned (.int .i64 y) ∧ Sd W P1 R0 q a w')
    (a1 : ∀ w1 q, Sd W P0 R1 q a w1 → Calls Try.prog 37 #[.pointer (some ⟨h, 0, none⟩), .int .i64 a.at_] w1 fun e w' => e = .returned (.int .i64 y) ∧ Sd W P1 R1 q a w')
    (b0 : ∀ w1 q, Sd W P0 R0 q a w1 → Calls Try.prog 61 #[.pointer (some ⟨r, 0, none⟩), .int .i64 a.at_] w1 fun e w' => e = .returned (.int .i64 y) ∧ Sd W P0 R1 q a w')
    (b1 : ∀ w1 q, Sd W P1 R0 q a w1 → Calls Try.prog 61 #[.pointer (some ⟨r, 0, none⟩), .int .i64 a.at_] w1 fun e w' => e = .returned (.int .i64 y) ∧ Sd W P1 R1 q a w') :
    Calls Try.prog 39 #[.pointer (some ⟨h, 0, none⟩), .pointer (some ⟨r, 0, none⟩), .agg #[.int .i64 a.k, .string a.nm, .int .i64 a.am, .int .i64 a.fr, .int .i64 a.ex, .int .i64 a.at_, .int .i64 a.mo]] w fun e w' => e = .returned (.bool true) ∧ P1 w' ∧ R1 w' ∧ Below W.heap.size W w' := by
  have d0 : (a.k == 0) = false := by simp [hk.1]
  have d1 : (a.k == 1) = false := by simp [hk.2.1]
  have d2 : (a.k == 2) = false := by simp [hk.2.2]
  have hal := (Below.refl w.heap.size w).alloc (Nat.le_refl _) (.cells (acs a) 70)
  have HS := Lib.hid (show Sd W P0 R0 w.heap.size a (w.alloc (.cells #[.int .i64 a.k, .string a.nm, .int .i64 a.am, .int .i64 a.fr, .int .i64 a.ex, .int .i64 a.at_, .int .i64 a.mo] 70)) from ⟨sP _ _ hp hal, sR _ _ hr hal, Below.on hb hal, Blk.new _ _ _⟩)
  have A0 := Lib.hid a0
  have A1 := Lib.hid a1
  have B0 := Lib.hid b0
  have B1 := Lib.hid b1
  have SP := Lib.hid sP
  have SR := Lib.hid sR
  clear hal a0 a1 b0 b1 sP sR hp hr hb hk
  go_enter Try.func39, Try.ntmps39
  go_wp2_with fail
  obtain ⟨q, hq⟩ : ∃ q, q = w.heap.size := ⟨_, rfl⟩
  rw [← hq] at HS ⊢
  clear hq
  generalize w.alloc (.cells #[.int .i64 a.k, .string a.nm, .int .i64 a.am, .int .i64 a.fr, .int .i64 a.ex, .int .i64 a.at_, .int .i64 a.mo] 70) = w5 at HS ⊢
  obtain ⟨q0, q1, q2, q3, q4, q5, q6⟩ := act_cells HS.out.blk
  have hS : Sd W P0 R0 q a w5.drew := HS.out.keep SP.out SR.out (below_drewN (Below.refl _ _) 1)
  clear HS
  go_region_held3 (fun w' => w'.cell? ⟨q, 5, none⟩ = some (.int .i64 a.at_))
    (first
      | go_keep
      | assumption)
    (first
      | (go_at_call 37; first
          | (refine (A0.out _ q ?_).mono ?_; (first | assumption | exact Sd.keep (by assumption) SP.out SR.out (below_drewN (Below.refl _ _) 1)); rintro e w6 ⟨rfl, hS2⟩; obtain ⟨e0, e1, e2, e3, e4, e5, e6⟩ := act_cells hS2.blk)
          | (refine (A1.out _ q ?_).mono ?_; (first | assumption | exact Sd.keep (by assumption) SP.out SR.out (below_drewN (Below.refl _ _) 1)); rintro e w6 ⟨rfl, hS3⟩; obtain ⟨e0, e1, e2, e3, e4, e5, e6⟩ := act_cells hS3.blk))
      | (go_at_call 61; first
          | (refine (B0.out _ q ?_).mono ?_; (first | assumption | exact Sd.keep (by assumption) SP.out SR.out (below_drewN (Below.refl _ _) 1)); rintro e w6 ⟨rfl, hS2⟩; obtain ⟨e0, e1, e2, e3, e4, e5, e6⟩ := act_cells hS2.blk)
          | (refine (B1.out _ q ?_).mono ?_; (first | assumption | exact Sd.keep (by assumption) SP.out SR.out (below_drewN (Below.refl _ _) 1)); rintro e w6 ⟨rfl, hS3⟩; obtain ⟨e0, e1, e2, e3, e4, e5, e6⟩ := act_cells hS3.blk)))
  all_goals
    have HF := Lib.hid hS3
    clear hS3 e0 e1 e2 e3 e4 e5 e6
    go_wp2
    go_ret
    exact ⟨ret_bool (by simp), HF.out.p, HF.out.r, HF.out.below⟩
set_option maxHeartbeats 4000000 in
set_option maxRecDepth 100000 in
theorem same_check {W w : World} {P0 P1 R0 R1 : World → Prop} {h r : Nat} {a : Ac} {u y : Int} (hk : a.k = 1) (sP : Stays P0) (sR : Stays R0) (hp : P0 w) (hr : R0 w) (hb : Below W.heap.size W w)
    (a0 : ∀ w1 q, Sd W P0 R0 q a w1 → Calls Try.prog 22 #[.pointer (some ⟨h, 0, none⟩), .string a.nm, .int .i64 a.at_, .int .i64 a.mo] w1 fun e w' => e = .returned (.tuple #[.int .i64 u, .int .i64 y]) ∧ Sd W P1 R0 q a w')
    (b1 : ∀ w1 q, Sd W P1 R0 q a w1 → Calls Try.prog 59 #[.pointer (some ⟨r, 0, none⟩), .string a.nm, .int .i64 a.at_, .int .i64 a.mo] w1 fun e w' => e = .returned (.tuple #[.int .i64 u, .int .i64 y]) ∧ Sd W P1 R1 q a w') :
    Calls Try.prog 39 #[.pointer (some ⟨h, 0, none⟩), .pointer (some ⟨r, 0, none⟩), .agg #[.int .i64 a.k, .string a.nm, .int .i64 a.am, .int .i64 a.fr, .int .i64 a.ex, .int .i64 a.at_, .int .i64 a.mo]] w fun e w' => e = .returned (.bool true) ∧ P1 w' ∧ R1 w' ∧ Below W.heap.size W w' := by
  have d0 : (a.k == 0) = false := by simp [hk]
  have d1 : (a.k == 1) = true := by simp [hk]
  have hal := (Below.refl w.heap.size w).alloc (Nat.le_refl _) (.cells (acs a) 70)
  have HS := Lib.hid (show Sd W P0 R0 w.heap.size a (w.alloc (.cells #[.int .i64 a.k, .string a.nm, .int .i64 a.am, .int .i64 a.fr, .int .i64 a.ex, .int .i64 a.at_, .int .i64 a.mo] 70)) from ⟨sP _ _ hp hal, sR _ _ hr hal, Below.on hb hal, Blk.new _ _ _⟩)
  have A0 := Lib.hid a0
  have B1 := Lib.hid b1
  clear hal a0 b1 sP sR hp hr hb hk
  go_enter Try.func39, Try.ntmps39
  go_wp2_with fail
  refine (A0.out _ _ HS.out).mono ?_
  rintro e w6 ⟨rfl, hS2⟩
  obtain ⟨e0, e1, e2, e3, e4, e5, e6⟩ := act_cells hS2.blk
  have HS2 := Lib.hid hS2
  clear hS2 HS
  go_wp2_with fail
  refine (B1.out _ _ HS2.out).mono ?_
  rintro e w7 ⟨rfl, hS3⟩
  obtain ⟨c0, c1, c2, c3, c4, c5, c6⟩ := act_cells hS3.blk
  have HF := Lib.hid hS3
  clear hS3 e0 e1 e2 e3 e4 e5 e6
  go_wp2
  go_ret
  exact ⟨ret_bool (by simp), HF.out.p, HF.out.r, HF.out.below⟩

set_option maxHeartbeats 4000000 in
set_option maxRecDepth 100000 in
theorem same_claim {W w : World} {P0 P1 R0 R1 : World → Prop} {h r : Nat} {a : Ac} {u y : Int} (hk : a.k = 2) (sP : Stays P0) (sR : Stays R0) (hp : P0 w) (hr : R0 w) (hb : Below W.heap.size W w)
    (a0 : ∀ w1 q, Sd W P0 R0 q a w1 → Calls Try.prog 20 #[.pointer (some ⟨h, 0, none⟩), .string a.nm, .int .i64 a.at_, .int .i64 a.mo] w1 fun e w' => e = .returned (.tuple #[.int .i64 u, .int .i64 y]) ∧ Sd W P1 R0 q a w')
    (b1 : ∀ w1 q, Sd W P1 R0 q a w1 → Calls Try.prog 60 #[.pointer (some ⟨r, 0, none⟩), .string a.nm, .int .i64 a.at_, .int .i64 a.mo] w1 fun e w' => e = .returned (.tuple #[.int .i64 u, .int .i64 y]) ∧ Sd W P1 R1 q a w') :
    Calls Try.prog 39 #[.pointer (some ⟨h, 0, none⟩), .pointer (some ⟨r, 0, none⟩), .agg #[.int .i64 a.k, .string a.nm, .int .i64 a.am, .int .i64 a.fr, .int .i64 a.ex, .int .i64 a.at_, .int .i64 a.mo]] w fun e w' => e = .returned (.bool true) ∧ P1 w' ∧ R1 w' ∧ Below W.heap.size W w' := by
  have d0 : (a.k == 0) = false := by simp [hk]
  have d1 : (a.k == 1) = false := by simp [hk]
  have d2 : (a.k == 2) = true := by simp [hk]
  have hal := (Below.refl w.heap.size w).alloc (Nat.le_refl _) (.cells (acs a) 70)
  have HS := Lib.hid (show Sd W P0 R0 w.heap.size a (w.alloc (.cells #[.int .i64 a.k, .string a.nm, .int .i64 a.am, .int .i64 a.fr, .int .i64 a.ex, .int .i64 a.at_, .int .i64 a.mo] 70)) from ⟨sP _ _ hp hal, sR _ _ hr hal, Below.on hb hal, Blk.new _ _ _⟩)
  have A0 := Lib.hid a0
  have B1 := Lib.hid b1
  clear hal a0 b1 sP sR hp hr hb hk
  go_enter Try.func39, Try.ntmps39
  go_wp2_with fail
  refine (A0.out _ _ HS.out).mono ?_
  rintro e w6 ⟨rfl, hS2⟩
  obtain ⟨e0, e1, e2, e3, e4, e5, e6⟩ := act_cells hS2.blk
  have HS2 := Lib.hid hS2
  clear hS2 HS
  go_wp2_with fail
  refine (B1.out _ _ HS2.out).mono ?_
  rintro e w7 ⟨rfl, hS3⟩
  obtain ⟨c0, c1, c2, c3, c4, c5, c6⟩ := act_cells hS3.blk
  have HF := Lib.hid hS3
  clear hS3 e0 e1 e2 e3 e4 e5 e6
  go_wp2
  go_ret
  exact ⟨ret_bool (by simp), HF.out.p, HF.out.r, HF.out.below⟩

end Go.Proofs.Ytpalmlcepppifaa
