/- Where the laws on an account stand in their loops. -/
import Derived.Test.YtpalmlcepppifaaRetAwake
set_option linter.unusedVariables false
namespace Go.Proofs.Ytpalmlcepppifaa
open Go.RowKit

/-- In a law: its account, the box of its terms, and all older memory. -/
structure Sit (W w : World) (g : Nat) (t : Rt.Tm) (x : Rt.St) : Prop where
  obj : Blk w g 85 (objC t x)
  okx : Rt.okS x
  box : Blk w W.heap.size 36 (termsC t)
  below : Below W.heap.size W w
  hg : W.heap.size < g
theorem Sit.keep {W w w1 : World} {g : Nat} {t : Rt.Tm} {x : Rt.St} (h : Sit W w g t x) (hb : Below w.heap.size w w1) : Sit W w1 g t x :=
  ⟨h.obj.keep hb, h.okx, h.box.keep hb, Below.on h.below hb, h.hg⟩
theorem Sit.alloc {W w : World} {g : Nat} {t : Rt.Tm} {x : Rt.St} (h : Sit W w g t x) (o : Go.Obj) : Sit W (w.alloc o) g t x := h.keep ((Below.refl _ _).alloc (Nat.le_refl _) o)
theorem Sit.drewN {W w : World} {g : Nat} {t : Rt.Tm} {x : Rt.St} (h : Sit W w g t x) (n : Nat) : Sit W (w.drewN n) g t x := h.keep (below_drewN (Below.refl _ _) n)
theorem Sit.told {W w w1 : World} {g : Nat} {t : Rt.Tm} {x x' : Rt.St} (h : Sit W w g t x) (hx : Rt.okS x') (ho : Blk w1 g 85 (objC t x')) (hb : w.grownBy w1 (some g)) : Sit W w1 g t x' :=
  ⟨ho, hx, h.box.grown hb (by have := h.hg; simp; omega), below_only h.below hb (Nat.le_of_lt h.hg) h.below.size, h.hg⟩
theorem Sit.cells {W w : World} {g : Nat} {t : Rt.Tm} {x : Rt.St} (h : Sit W w g t x) :
    w.cell? ⟨W.heap.size, 0, none⟩ = some (.int .i64 t.sale) ∧ w.cell? ⟨W.heap.size, 1, none⟩ = some (.int .i64 t.cash) ∧ w.cell? ⟨W.heap.size, 2, none⟩ = some (.int .i64 t.bonus) ∧ w.cell? ⟨W.heap.size, 3, none⟩ = some (.int .i64 t.above) ∧ w.cell? ⟨W.heap.size, 4, none⟩ = some (.int .i64 t.credit) :=
  ⟨h.box.cell 0, h.box.cell 1, h.box.cell 2, h.box.cell 3, h.box.cell 4⟩
/-- An account is made of good terms. -/
theorem new_sit {W : World} {t : Rt.Tm} (ht : Rt.okT t) :
    Calls Try.prog 24 #[.agg #[.int .i64 t.sale, .int .i64 t.cash, .int .i64 t.bonus, .int .i64 t.above, .int .i64 t.credit]] (W.alloc (.cells #[.int .i64 t.sale, .int .i64 t.cash, .int .i64 t.bonus, .int .i64 t.above, .int .i64 t.credit] 36)) fun e w' => ∃ g, e = .returned (.tuple #[.pointer (some ⟨g, 0, none⟩), .int .i64 0]) ∧ Sit W w' g t Rt.zero := by
  refine (new_ok (t := t) ht).mono ?_
  rintro e w1 ⟨g, rfl, hg, ho, hb⟩
  exact ⟨g, rfl, ho, Rt.okS_zero, (Blk.new W 36 (termsC t)).keep hb, Below.on ((Below.refl _ _).alloc (Nat.le_refl _) _) hb, by simp at hg; omega⟩
theorem new_bad_at {W : World} {t : Rt.Tm} (ht : ¬ Rt.okT t) :
    Calls Try.prog 24 #[.agg #[.int .i64 t.sale, .int .i64 t.cash, .int .i64 t.bonus, .int .i64 t.above, .int .i64 t.credit]] (W.alloc (.cells #[.int .i64 t.sale, .int .i64 t.cash, .int .i64 t.bonus, .int .i64 t.above, .int .i64 t.credit] 36)) fun e w' => e = .returned (.tuple #[.pointer none, .int .i64 2]) ∧ Below W.heap.size W w' := by
  refine (new_bad (t := t) ht).mono ?_
  rintro e w1 ⟨rfl, hb⟩
  exact ⟨rfl, Below.on ((Below.refl _ _).alloc (Nat.le_refl _) _) hb⟩
theorem set_letters (t : Rt.Tm) (x : Rt.St) : ∃ c d : Int, setC t x = #[.int .i64 x.s, .int .i64 x.r, .int .i64 x.c, .int .i64 c, .int .i64 d] := ⟨_, _, rfl⟩
theorem out_letters (t : Rt.Tm) (x : Rt.St) (k : Int) : ∃ a b c d e : Int, outC t x k = #[.int .i64 a, .int .i64 b, .int .i64 c, .int .i64 d, .int .i64 e] := by
  unfold outC
  split
  · exact ⟨_, _, _, _, _, rfl⟩
  · exact ⟨_, _, _, _, _, rfl⟩
theorem out_zero {t : Rt.Tm} {x : Rt.St} {k : Int} (h : k = 0 ∨ k = 1 ∨ k = 2) : outC t x k = #[.int .i64 0, .int .i64 0, .int .i64 0, .int .i64 0, .int .i64 0] := by
  unfold outC; rw [if_pos h]; rfl
theorem out_set {t : Rt.Tm} {x : Rt.St} {k : Int} (h : ¬ (k = 0 ∨ k = 1 ∨ k = 2)) : outC t x k = setC t x := by
  unfold outC; rw [if_neg h]
end Go.Proofs.Ytpalmlcepppifaa
