/- An argument of type []int, opened to cells. -/
import Derived.Test.YtiflmnmkmpjecaaG13
import Derived.Test.YtiflmnmkmpjecaaRows
import Derived.Test.YtiflmnmkmpjecaaFields
set_option linter.unusedVariables false
namespace Go.Proofs.Ytiflmnmkmpjecaa
open Go.ChangeShapes Go.WideShapes Go.RowKit
set_option maxRecDepth 100000 in
theorem open_iv {H : Type} {enc : TypeId × Value → H} {W : World} {base : Nat} {v : Value} {d : DataW H} {p : List MemPlace}
    (hv : Value.okWide Try.prog W .any base 24 v) (hj : DataW.Trod enc Try.prog W 0 (fun _ => true) true 24 v d p) :
    ∃ (D : Option Addr) (n c : Nat) (G : Nat → Int), v = .slice D n c ∧ n ≤ c ∧ c ≤ maxLen ∧ Cells W D n (Fa.Iv G) ∧ ∀ i, i < n → (Lit.int .i64 (G i)).wf = true := by
  obtain ⟨a0, len, cap, rfl⟩ := okWide_slice Try.underlying24 hv
  obtain ⟨fuel, hf⟩ := hj
  rcases open_ints Try.underlying24 Try.underlying3 (by kernel_rfl) hf with ⟨hcs, _⟩ | ⟨a, l, c, zs, hcs, _, hl, hm, hz, _, hcell, hwz⟩
  · simp [Value.cells] at hcs
    obtain ⟨rfl, rfl, rfl⟩ := hcs
    exact ⟨none, 0, 0, fun _ => 0, rfl, Nat.le_refl _, Nat.zero_le _, Cells.nil, fun i hi => absurd hi (by omega)⟩
  · simp [Value.cells] at hcs
    obtain ⟨rfl, rfl, rfl⟩ := hcs
    have hzl : zs.length = cap := by simpa using hz
    exact ⟨some a, len, cap, fun i => zs.getD i 0, rfl, hl, hm, Cells.mk_ fun j hj => hcell j (by omega), fun i hi => hwz _ (by
      show zs.getD i 0 ∈ zs
      rw [List.getD_eq_getElem?_getD, List.getElem?_eq_getElem (by omega)]
      exact List.getElem_mem _)⟩
end Go.Proofs.Ytiflmnmkmpjecaa
