/- The examples of the chapter on taxes: awake returns true. -/
import Derived.Test.YtjjilnipmoanlaaTaxTax
namespace Go.Proofs.Ytjjilnipmoanlaa
open Go.RowKit

theorem tax_at {A : Option Addr} {n c : Nat} {F R : Nat → Int} {a x y : Int} {w : World} (hn : n ≤ 9223372036854775807) (h : Cells w A (n * 2) (Two F R)) (hx : Tx.val n F R a = x) (hy : Tx.err n F R a = y) :
    Calls Try.prog 24 #[.slice A n c, .int .i64 a] w fun e w' => e = .returned (.tuple #[.int .i64 x, .int .i64 y]) ∧ Below w.heap.size w w' := by
  subst hx hy; exact tax_any A n c F R a w hn h
theorem check_at {A : Option Addr} {n c : Nat} {F R : Nat → Int} {y : Int} {w : World} (hn : n ≤ 9223372036854775807) (h : Cells w A (n * 2) (Two F R)) (hy : Tx.chk n F R = y) :
    Calls Try.prog 22 #[.slice A n c] w fun e w' => e = .returned (.int .i64 y) ∧ Below w.heap.size w w' := by
  subst hy; exact check_any A n c F R w hn h
def seq2 (x y : Int) (i : Nat) : Int := if i = 0 then x else y

set_option maxHeartbeats 1000000 in
set_option maxRecDepth 100000 in
theorem awake45 (w : World) : Calls Try.prog 21 #[] w fun e w' => e = .returned (.bool true) ∧ Below w.heap.size w w' := by
  obtain ⟨W, hW⟩ : ∃ W, W = (w.alloc (.cells #[.int .i64 500, .int .i64 1000] 32)).alloc (.cells #[.int .i64 0, .int .i64 1000, .int .i64 100, .int .i64 2500] 32) := ⟨_, rfl⟩
  have h1 : Cells W (some ⟨w.heap.size, 0, none⟩) (1 * 2) (Two (seq2 500 0) (seq2 1000 0)) := by
    rw [hW]
    refine (Cells.lit rfl fun j hj => ?_).alloc _
    match j, hj with
    | 0, _ => rfl
    | 1, _ => rfl
  have h2 : Cells W (some ⟨w.heap.size + 1, 0, none⟩) (2 * 2) (Two (seq2 0 100) (seq2 1000 2500)) := by
    rw [hW]
    refine Cells.lit (by simp) fun j hj => ?_
    match j, hj with
    | 0, _ => rfl
    | 1, _ => rfl
    | 2, _ => rfl
    | 3, _ => rfl
  have h0 : Below w.heap.size w W := by
    rw [hW]; exact Below.step (Below.step (Below.refl _ _) (Nat.le_refl _) _) (Nat.le_refl _) _
  have H1 := Lib.hid h1
  have H2 := Lib.hid h2
  have H0 := Lib.hid h0
  have HW := Lib.hid hW
  clear h1 h2 h0 hW
  have hmk : ∀ w, (Instr.makeSlice 22 (.int .i64 9) (.int .i64 9)).run Try.prog w = .ok (.slice (some ⟨w.heap.size, 0, none⟩) 9 9) (w.alloc (.cells #[.int .i64 0, .int .i64 0, .int .i64 0, .int .i64 0, .int .i64 0, .int .i64 0, .int .i64 0, .int .i64 0, .int .i64 0, .int .i64 0, .int .i64 0, .int .i64 0, .int .i64 0, .int .i64 0, .int .i64 0, .int .i64 0, .int .i64 0, .int .i64 0] 32)) := fun _ => by kernel_rfl
  go_enter Try.func21, Try.ntmps21
  go_wp2_with fail
  rw [← HW.out]
  refine (tax_at (x := 50) (y := 0) (by omega) H1.out (by decide) (by decide)).mono ?_
  rintro e w1 ⟨rfl, hb1⟩
  replace H1 := Lib.hid (H1.out.below hb1)
  replace H2 := Lib.hid (H2.out.below hb1)
  replace H0 := Lib.hid (H0.out.trans (hb1.mono H0.out.size))
  clear hb1
  go_wp2_with fail
  refine (tax_at (x := 0) (y := 0) (by omega) H1.out (by decide) (by decide)).mono ?_
  rintro e w1 ⟨rfl, hb1⟩
  replace H1 := Lib.hid (H1.out.below hb1)
  replace H2 := Lib.hid (H2.out.below hb1)
  replace H0 := Lib.hid (H0.out.trans (hb1.mono H0.out.size))
  clear hb1
  go_wp2_with fail
  refine (tax_at (x := 1) (y := 0) (by omega) H1.out (by decide) (by decide)).mono ?_
  rintro e w1 ⟨rfl, hb1⟩
  replace H1 := Lib.hid (H1.out.below hb1)
  replace H2 := Lib.hid (H2.out.below hb1)
  replace H0 := Lib.hid (H0.out.trans (hb1.mono H0.out.size))
  clear hb1
  go_wp2_with fail
  refine (tax_at (x := 34) (y := 0) (by omega) H2.out (by decide) (by decide)).mono ?_
  rintro e w1 ⟨rfl, hb1⟩
  replace H1 := Lib.hid (H1.out.below hb1)
  replace H2 := Lib.hid (H2.out.below hb1)
  replace H0 := Lib.hid (H0.out.trans (hb1.mono H0.out.size))
  clear hb1
  go_wp2_with fail
  refine (tax_at (x := 0) (y := 2) (by omega) H2.out (by decide) (by decide)).mono ?_
  rintro e w1 ⟨rfl, hb1⟩
  replace H0 := Lib.hid (H0.out.trans (hb1.mono H0.out.size))
  clear hb1 H1 H2
  go_wp2_with fail
  refine (check_big _ _ _ _ (by omega) (by omega)).mono ?_
  rintro e w2 ⟨rfl, rfl⟩
  replace H0 := Lib.hid (Below.step H0.out (Nat.le_refl _) (.cells #[.int .i64 0, .int .i64 0, .int .i64 0, .int .i64 0, .int .i64 0, .int .i64 0, .int .i64 0, .int .i64 0, .int .i64 0, .int .i64 0, .int .i64 0, .int .i64 0, .int .i64 0, .int .i64 0, .int .i64 0, .int .i64 0, .int .i64 0, .int .i64 0] 32))
  go_wp2_with fail
  refine (check_at (y := 2) (F := seq2 0 0) (R := seq2 10001 0) (by omega) (Cells.lit (by simp) fun j hj => ?_) (by decide)).mono ?_
  · match j, hj with
    | 0, _ => rfl
    | 1, _ => rfl
  rintro e w2 ⟨rfl, hb1⟩
  replace H0 := Lib.hid ((Below.step H0.out (Nat.le_refl _) (.cells #[.int .i64 0, .int .i64 10001] 32)).trans (hb1.mono (Below.step H0.out (Nat.le_refl _) _).size))
  clear hb1
  go_wp2
  go_ret
  exact ⟨rfl, H0.out⟩
end Go.Proofs.Ytjjilnipmoanlaa
