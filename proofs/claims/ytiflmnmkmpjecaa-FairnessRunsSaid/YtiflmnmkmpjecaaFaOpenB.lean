/- An argument of type []bool, opened. -/
import Derived.Test.YtiflmnmkmpjecaaFaSeq
import Derived.Test.YtiflmnmkmpjecaaRows
import Derived.Test.YtiflmnmkmpjecaaFields
import Derived.Deep.Grids
set_option linter.unusedVariables false
namespace Go.Proofs.Ytiflmnmkmpjecaa
open Go.ChangeShapes Go.WideShapes Go.RowKit Go.Deep
set_option maxRecDepth 100000 in
theorem open_bl {H : Type} {enc : TypeId × Value → H} {W : World} {base : Nat} {v : Value} {d : DataW H} {p : List MemPlace}
    (hv : Value.okWide Try.prog W .any base 43 v) (hj : DataW.Trod enc Try.prog W 0 (fun _ => true) true 43 v d p) :
    ∃ (D : Option Addr) (n c : Nat) (f : Nat → Bool), v = .slice D n c ∧ n ≤ c ∧ c ≤ maxLen ∧ Cells W D n (Fa.Bl f) := by
  obtain ⟨a0, len, cap, rfl⟩ := okWide_slice Try.underlying43 hv
  obtain ⟨fuel, hf⟩ := hj
  rcases open_bools Try.underlying43 Try.underlying4 (by kernel_rfl) hf with ⟨hcs, _⟩ | ⟨a, l, c, B, hcs, _, hl, hm, _, hr⟩
  · simp [Value.cells] at hcs
    obtain ⟨rfl, rfl, rfl⟩ := hcs
    exact ⟨none, 0, 0, fun _ => false, rfl, Nat.le_refl _, Nat.zero_le _, Cells.nil⟩
  · simp [Value.cells] at hcs
    obtain ⟨rfl, rfl, rfl⟩ := hcs
    exact ⟨some a, len, cap, B, rfl, hl, hm, Cells.mk_ fun j hj => hr j (by omega)⟩
end Go.Proofs.Ytiflmnmkmpjecaa
