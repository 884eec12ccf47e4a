/- Arguments of type [][]int, [](int) and []bool, opened. -/
import Derived.Test.YtiflmnmkmpjecaaFaSeq
import Derived.Test.YtiflmnmkmpjecaaRows
import Derived.Test.YtiflmnmkmpjecaaFields
import Derived.Deep.Matrix
set_option linter.unusedVariables false
namespace Go.Proofs.Ytiflmnmkmpjecaa
open Go.ChangeShapes Go.WideShapes Go.RowKit Go.Deep
set_option maxRecDepth 100000 in
theorem open_rows {H : Type} {enc : TypeId × Value → H} {W : World} {base : Nat} {v : Value} {d : DataW H} {p : List MemPlace}
    (hv : Value.okWide Try.prog W .any base 22 v) (hj : DataW.Trod enc Try.prog W 0 (fun _ => true) true 22 v d p) :
    ∃ (A : Option Addr) (n c : Nat) (B : Nat → Option Addr) (L C : Nat → Nat) (Z : Nat → Nat → Int), v = .slice A n c ∧ n ≤ c ∧ c ≤ maxLen ∧ (∀ r, r < n → L r ≤ maxLen) ∧ Fa.Rows2 W A n B L C Z := by
  obtain ⟨a0, len, cap, rfl⟩ := okWide_slice Try.underlying22 hv
  obtain ⟨fuel, hf⟩ := hj
  rcases open_int_rows Try.underlying22 Try.underlying24 Try.underlying3 (by kernel_rfl) (by kernel_rfl) hf with ⟨hcs, _⟩ | ⟨a, l, c, A, L, C, Z, hcs, _, hl, hm, _, hr⟩
  · simp [Value.cells] at hcs
    obtain ⟨rfl, rfl, rfl⟩ := hcs
    exact ⟨none, 0, 0, fun _ => none, fun _ => 0, fun _ => 0, fun _ _ => 0, rfl, Nat.le_refl _, Nat.zero_le _, fun r hr => absurd hr (by omega), ⟨Cells.nil, fun r hr => absurd hr (by omega)⟩⟩
  · simp [Value.cells] at hcs
    obtain ⟨rfl, rfl, rfl⟩ := hcs
    refine ⟨some a, len, cap, A, L, C, fun r i => (Z r).getD i 0, rfl, hl, hm, fun r h => ?_, ⟨Cells.mk_ fun j hj => (hr j (by omega)).1, fun r h => ?_⟩⟩
    · have := hr r (by omega)
      omega
    · obtain ⟨_, h1, _, _, _, h2, h3⟩ := hr r (by omega)
      cases e : A r with
      | none =>
        have := h2 e
        rw [show L r = 0 by omega]
        exact Cells.nil
      | some a' => exact Cells.mk_ fun j hj => (h3 a' e).2 j (by omega)
end Go.Proofs.Ytiflmnmkmpjecaa
