/- The walk of same: one act on the claims and on their reference. -/
import Derived.Test.YtpalmlcepppifaaClmBoth
set_option linter.unusedVariables false
namespace Go.Proofs.Ytpalmlcepppifaa
open Go.RowKit Go.Maps Go.ChangeShapes Go.WideElems Go.WideMaps

/-- An act's cells. -/
def acs (a : Ac) : Array Value := #[.int .i64 a.k, .string a.nm, .int .i64 a.am, .int .i64 a.fr, .int .i64 a.ex, .int .i64 a.at_, .int .i64 a.mo]
structure Sd (W : World) (P R : World → Prop) (q : Nat) (a : Ac) (w : World) : Prop where
  p : P w
  r : R w
  below : Below W.heap.size W w
  blk : Blk w q 70 (acs a)
/-- What is kept by making and drawing. -/
def Stays (P : World → Prop) : Prop := ∀ w w1 : World, P w → Below w.heap.size w w1 → P w1
theorem Sd.keep {W w w1 : World} {P R : World → Prop} {q : Nat} {a : Ac} (s : Sd W P R q a w) (hP : Stays P) (hR : Stays R) (h : Below w.heap.size w w1) : Sd W P R q a w1 := ⟨hP _ _ s.p h, hR _ _ s.r h, Below.on s.below h, s.blk.keep h⟩

set_option maxHeartbeats 4000000 in
set_option maxRecDepth 100000 in
theorem same_add {W w : World} {P0 P1 R0 R1 : World → Prop} {h r : Nat} {a : Ac} {y : Int} (hk : a.k = 0) (sP : Stays P0) (sR : Stays R0) (hp : P0 w) (hr : R0 w) (hb : Below W.heap.size W w)
    (a0 : ∀ w1 q, Sd W P0 R0 q a w1 → Calls Try.prog 19 #[.pointer (some ⟨h, 0, none⟩), .string a.nm, .int .i64 a.am, .int .i64 a.fr, .int .i64 a.ex] w1 fun e w' => e = .returned (.int .i64 y) ∧ Sd W P1 R0 q a w')
    (a1 : ∀ w1 q, Sd W P0 R1 q a w1 → Calls Try.prog 19 #[.pointer (some ⟨h, 0, none⟩), .string a.nm, .int .i64 a.am, .int .i64 a.fr, .int .i64 a.ex] w1 fun e w' => e = .returned (.int .i64 y) ∧ Sd W P1 R1 q a w')
    (b0 : ∀ w1 q, Sd W P0 R0 q a w1 → Calls Try.prog 58 #[.pointer (some ⟨r, 0, none⟩), .string a.nm, .int .i64 a.am, .int .i64 a.fr, .int .i64 a.ex] w1 fun e w' => e = .returned (.int .i64 y) ∧ Sd W P0 R1 q a w')
    (b1 : ∀ w1 q, Sd W P1 R0 q a w1 → Calls Try.prog 58 #[.pointer (some ⟨r, 0, none⟩), .string a.nm, .int .i64 a.am, .int .i64 a.fr, .int .i64 a.ex] w1 fun e w' => e = .returned (.int .i64 y) ∧ Sd W P1 R1 q a w') :
    Calls Try.prog 39 #[.pointer (some ⟨h, 0, none⟩), .pointer (some ⟨r, 0, none⟩), .agg #[.int .i64 a.k, .string a.nm, .int .i64 a.am, .int .i64 a.fr, .int .i64 a.ex, .int .i64 a.at_, .int .i64 a.mo]] w fun e w' => e = .returned (.bool true) ∧ P1 w' ∧ R1 w' ∧ Below W.heap.size W w' := by
  have d0 : (a.k == 0) = true := by simp [hk]
  have hal := (Below.refl w.heap.size w).alloc (Nat.le_refl _) (.cells (acs a) 70)
  have HS := Lib.hid (show Sd W P0 R0 w.heap.size a (w.alloc (.cells #[.int .i64 a.k, .string a.nm, .int .i64 a.am, .int .i64 a.fr, .int .i64 a.ex, .int .i64 a.at_, .int .i64 a.mo] 70)) from ⟨sP _ _ hp hal, sR _ _ hr hal, Below.on hb hal, Blk.new _ _ _⟩)
  have A0 := Lib.hid a0
  have A1 := Lib.hid a1
  have B0 := Lib.hid b0
  have B1 := Lib.hid b1
  have SP := Lib.hid sP
  have SR := Lib.hid sR
  clear hal a0 a1 b0 b1 sP sR hp hr hb hk
  go_enter Try.func39, Try.ntmps39
  go_wp2_with fail
  obtain ⟨q, hq⟩ : ∃ q, q = w.heap.size := ⟨_, rfl⟩
  rw [← hq] at HS ⊢
  clear hq
  generalize w.alloc (.cells #[.int .i64 a.k, .string a.nm, .int .i64 a.am, .int .i64 a.fr, .int .i64 a.ex, .int .i64 a.at_, .int .i64 a.mo] 70) = w5 at HS ⊢
  obtain ⟨q0, q1, q2, q3, q4, q5, q6⟩ := act_cells HS.out.blk
  have hS : Sd W P0 R0 q a w5.drew := HS.out.keep SP.out SR.out (below_drewN (Below.refl _ _) 1)
  clear HS
  go_region_held3 (fun w' => w'.cell? ⟨q, 1, none⟩ = some (.string a.nm) ∧ w'.cell? ⟨q, 2, none⟩ = some (.int .i64 a.am) ∧ w'.cell? ⟨q, 3, none⟩ = some (.int .i64 a.fr) ∧ w'.cell? ⟨q, 4, none⟩ = some (.int .i64 a.ex))
    (first
      | go_keep
      | (refine ⟨?_, ?_, ?_, ?_⟩ <;> assumption))
    (first
      | (go_at_call 19; first
          | (refine (A0.out _ q ?_).mono ?_; (first | assumption | exact Sd.keep (by assumption) SP.out SR.out (below_drewN (Below.refl _ _) 1)); rintro e w6 ⟨rfl, hS2⟩; obtain ⟨e0, e1, e2, e3, e4, e5, e6⟩ := act_cells hS2.blk)
          | (refine (A1.out _ q ?_).mono ?_; (first | assumption | exact Sd.keep (by assumption) SP.out SR.out (below_drewN (Below.refl _ _) 1)); rintro e w6 ⟨rfl, hS3⟩; obtain ⟨e0, e1, e2, e3, e4, e5, e6⟩ := act_cells hS3.blk))
      | (go_at_call 58; first
          | (refine (B0.out _ q ?_).mono ?_; (first | assumption | exact Sd.keep (by assumption) SP.out SR.out (below_drewN (Below.refl _ _) 1)); rintro e w6 ⟨rfl, hS2⟩; obtain ⟨e0, e1, e2, e3, e4, e5, e6⟩ := act_cells hS2.blk)
          | (refine (B1.out _ q ?_).mono ?_; (first | assumption | exact Sd.keep (by assumption) SP.out SR.out (below_drewN (Below.refl _ _) 1)); rintro e w6 ⟨rfl, hS3⟩; obtain ⟨e0, e1, e2, e3, e4, e5, e6⟩ := act_cells hS3.blk)))
  all_goals
    have HF := Lib.hid hS3
    clear hS3 e0 e1 e2 e3 e4 e5 e6
    go_wp2
    go_ret
    exact ⟨ret_bool (by simp), HF.out.p, HF.out.r, HF.out.below⟩
end Go.Proofs.Ytpalmlcepppifaa
