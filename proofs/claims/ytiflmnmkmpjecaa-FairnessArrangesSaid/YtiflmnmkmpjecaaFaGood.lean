/- The chi-square statistic of lists that came in: what it is, and what is refused. -/
import Derived.Test.YtiflmnmkmpjecaaFaSqP
set_option linter.unusedVariables false
namespace Go.Proofs.Ytiflmnmkmpjecaa
open Go.RowKit
namespace Fa
open Fr
/-- Counts and weights that the check lets by. -/
structure Good (n : Nat) (o p : Nat → Int) : Prop where
  n0 : 0 < n
  go : rgo o p n = true
  zr : zr p n = false
  sm : sm o n ≠ 0
def nt (f : Nat → Int) (i : Nat) : Nat := (f i).toNat
section
variable {n : Nat} {o p : Nat → Int}
theorem Good.oi (g : Good n o p) {i : Nat} (hi : i < n) : o i = (nt o i : Int) ∧ nt o i ≤ 1000000 := by
  have := rgo_at g.go hi
  unfold nt
  omega
theorem Good.pi (g : Good n o p) {i : Nat} (hi : i < n) : p i = (nt p i : Int) ∧ 0 < nt p i ∧ nt p i ≤ 1000000 := by
  have := rgo_at g.go hi
  have := zr_at g.zr i hi
  unfold nt
  omega
theorem Good.so (g : Good n o p) : Fa.sm o n = (nsum (nt o) n : Int) := sm_nsum fun i hi => (rgo_at g.go hi).1
theorem Good.sp (g : Good n o p) : Fa.sm p n = (nsum (nt p) n : Int) := sm_nsum fun i hi => (rgo_at g.go hi).2.2.1
theorem Good.so0 (g : Good n o p) : 0 < nsum (nt o) n := by have := g.so; have := g.sm; omega
theorem Good.sp0 (g : Good n o p) : 0 < nsum (nt p) n := nsm_pos g.n0 fun i hi => (g.pi hi).2.1
theorem Good.so1 (g : Good n o p) : nsum (nt o) n ≤ 1000000 * n := nsm_le fun i hi => (g.oi hi).2
theorem Good.sp1 (g : Good n o p) : nsum (nt p) n ≤ 1000000 * n := nsm_le fun i hi => (g.pi hi).2.2
theorem Good.co (g : Good n o p) {w : World} {A : Option Addr} (h : Cells w A n (Iv o)) : Cells w A n (Dg (nt o)) := h.congr fun j hj => by
  unfold Iv Dg
  rw [← (g.oi hj).1]
theorem Good.cp (g : Good n o p) {w : World} {A : Option Addr} (h : Cells w A n (Iv p)) : Cells w A n (Dg (nt p)) := h.congr fun j hj => by
  unfold Iv Dg
  rw [← (g.pi hj).1]
end
/-- What the statistic is when nothing is refused. -/
theorem chi_says {W : World} {A B : Option Addr} {n c c' : Nat} {o p : Nat → Int} (hn : n ≤ 12) (hA : Cells W A n (Iv o)) (hB : Cells W B n (Iv p)) (g : Good n o p) :
    ∀ w', Below W.heap.size W w' → Calls Try.prog 15 #[.slice A n c, .slice B n c'] w' fun e w'' => RS w'.heap.size w'' e (3 * n + 6) ((SN (nt o) (nt p) n).1 * nsum (nt p) n - nsum (nt o) n * ((SN (nt o) (nt p) n).2 * nsum (nt o) n)) ((SN (nt o) (nt p) n).2 * nsum (nt o) n) ∧ Below w'.heap.size w' w'' := fun w' hw => by
  refine chi_ok g.n0 hn (g.co (hA.below hw)) (g.cp (hB.below hw)) (fun i hi => (g.oi hi).2) (fun i hi => ⟨(g.pi hi).2.1, (g.pi hi).2.2⟩) rfl rfl g.so0 (by have := g.so1; omega) (by have := g.sp1; omega) fun w'' hw' => ?_
  refine (chk_main g.n0 (by omega) rfl (hA.below (Below.on hw hw')) (hB.below (Below.on hw hw'))).mono ?_
  rintro e w3 ⟨⟨h, _⟩ | ⟨_, h, _⟩ | ⟨_, _, _, rfl⟩, hb⟩
  · rw [g.go] at h; cases h
  · rcases h with h | h
    · rw [g.zr] at h; cases h
    · exact absurd h g.sm
  · rw [g.so, g.sp]; exact ⟨rfl, hb⟩
theorem rchi_says {W : World} {A B : Option Addr} {n c c' : Nat} {o p : Nat → Int} (hn : n ≤ 12) (hA : Cells W A n (Iv o)) (hB : Cells W B n (Iv p)) (g : Good n o p) :
    ∀ w', Below W.heap.size W w' → Calls Try.prog 16 #[.slice A n c, .slice B n c'] w' fun e w'' => RS w'.heap.size w'' e (4 * n + 2) (RN (nt o) (nt p) (nsum (nt o) n) (nsum (nt p) n) n).1 (RN (nt o) (nt p) (nsum (nt o) n) (nsum (nt p) n) n).2 ∧ Below w'.heap.size w' w'' := fun w' hw => by
  refine rchi_ok g.n0 hn (g.co (hA.below hw)) (g.cp (hB.below hw)) (fun i hi => (g.oi hi).2) (fun i hi => ⟨(g.pi hi).2.1, (g.pi hi).2.2⟩) g.so0 (by have := g.so1; omega) g.sp0 (by have := g.sp1; omega) fun w'' hw' => ?_
  refine (rchk_main g.n0 (by omega) rfl (hA.below (Below.on hw hw')) (hB.below (Below.on hw hw'))).mono ?_
  rintro e w3 ⟨⟨h, _⟩ | ⟨_, h, _⟩ | ⟨_, _, _, rfl⟩, hb⟩
  · rw [g.go] at h; cases h
  · rcases h with h | h
    · rw [g.zr] at h; cases h
    · exact absurd h g.sm
  · rw [g.so, g.sp]; exact ⟨rfl, hb⟩
/-- What is refused, by the program. -/
theorem chi_no {W : World} {A B : Option Addr} {n m c c' : Nat} {o p : Nat → Int} (hn : n ≤ 12) (hm : m ≤ 12) (hA : Cells W A n (Iv o)) (hB : Cells W B m (Iv p)) (hg : ¬ (m = n ∧ Good n o p)) :
    ∃ y : Nat, y ≠ 0 ∧ (∀ w', Below W.heap.size W w' → Calls Try.prog 15 #[.slice A n c, .slice B m c'] w' fun e w'' => e = .returned (.tuple #[fv none 0 0 none 0 0, .int .i64 (y : Int)]) ∧ Below w'.heap.size w' w'')
      ∧ (∀ w', Below W.heap.size W w' → Calls Try.prog 16 #[.slice A n c, .slice B m c'] w' fun e w'' => e = .returned (.tuple #[fv none 0 0 none 0 0, .int .i64 (y : Int)]) ∧ Below w'.heap.size w' w'') := by
  by_cases hl : n = 0 ∨ 0 < n ∧ 80 < n ∨ 0 < n ∧ n ≤ 80 ∧ m ≠ n
  · exact ⟨3, by decide, fun w' hw => chi_bad (by decide) fun w'' hw' => chk_len (o := o) (p := p) (by omega) (by omega) hl, fun w' hw => rchi_bad (by decide) fun w'' hw' => rchk_len (o := o) (p := p) (by omega) (by omega) hl⟩
  have hn0 : 0 < n := by omega
  obtain rfl : m = n := by omega
  have K := fun (w' : World) (hw : Below W.heap.size W w') => chk_main (c := c) (c' := c') hn0 (by omega) rfl (hA.below hw) (hB.below hw)
  have R := fun (w' : World) (hw : Below W.heap.size W w') => rchk_main (c := c) (c' := c') hn0 (by omega) rfl (hA.below hw) (hB.below hw)
  cases h1 : rgo o p m with
  | false =>
    refine ⟨2, by decide, fun w' hw => chi_bad (x := 0) (y := 0) (by decide) fun w'' hw' => (K w'' (Below.on hw hw')).mono ?_, fun w' hw => rchi_bad (x := 0) (y := 0) (by decide) fun w'' hw' => (R w'' (Below.on hw hw')).mono ?_⟩
    all_goals
      rintro e w3 ⟨⟨_, rfl⟩ | ⟨h, _⟩ | ⟨h, _⟩, hb⟩
      · exact ⟨rfl, hb⟩
      · rw [h1] at h; cases h
      · rw [h1] at h; cases h
  | true =>
    have h2 : zr p m = true ∨ sm o m = 0 := by
      cases h3 : zr p m with
      | true => exact .inl rfl
      | false => exact .inr (Classical.byContradiction fun h4 => hg ⟨rfl, hn0, h1, h3, h4⟩)
    refine ⟨10, by decide, fun w' hw => chi_bad (x := 0) (y := 0) (by decide) fun w'' hw' => (K w'' (Below.on hw hw')).mono ?_, fun w' hw => rchi_bad (x := 0) (y := 0) (by decide) fun w'' hw' => (R w'' (Below.on hw hw')).mono ?_⟩
    all_goals
      rintro e w3 ⟨⟨h, _⟩ | ⟨_, _, rfl⟩ | ⟨_, h3, h4, _⟩, hb⟩
      · rw [h1] at h; cases h
      · exact ⟨rfl, hb⟩
      · rcases h2 with h2 | h2
        · rw [h2] at h3; cases h3
        · exact absurd h2 h4
end Fa
end Go.Proofs.Ytiflmnmkmpjecaa
