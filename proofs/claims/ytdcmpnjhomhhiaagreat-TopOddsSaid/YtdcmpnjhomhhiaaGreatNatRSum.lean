/- The walks of the reference's Add. -/
import Derived.Test.YtdcmpnjhomhhiaaGreatNatHalf
import Derived.Deep.RegionHeld3
set_option linter.unusedVariables false
namespace Go.Proofs.YtdcmpnjhomhhiaaGreat
open Go.RowKit

theorem bl_alloc {a w : World} (h : Below a.heap.size a w) (o : Obj) : Below a.heap.size a (w.alloc o) := h.alloc h.size o
theorem bl_on {a w w' : World} (h : Below a.heap.size a w) (k : Below w.heap.size w w') : Below a.heap.size a w' := Below.on h k
theorem bl_lt {w w' : World} (h : Below w.heap.size w w') : ∀ k, k < w.heap.size → k < w'.heap.size := fun k hk => Nat.lt_of_lt_of_le hk h.size
theorem bl_drew {a w : World} (h : Below a.heap.size a w) : Below a.heap.size a w.drew := h.drew
theorem Bo.set_ {w w' : World} {S T R : Value} (h : Bo w w' S T R) {g : Nat} (hg : w.heap.size + 1 + 1 < g) (i : Nat) (u : Value) : Bo w (w'.setCell ⟨g, i, none⟩ u) S T R :=
  ⟨h.below.setCell (by simp; omega) _, h.b0.grown (only_set (only_refl _ _) i u) (by intro e; injection e; omega), h.b1.grown (only_set (only_refl _ _) i u) (by intro e; injection e; omega), h.b2.grown (only_set (only_refl _ _) i u) (by intro e; injection e; omega)⟩
theorem Bo.lt2 {w w' : World} {S T R : Value} (h : Bo w w' S T R) : w.heap.size + 1 + 1 < w'.heap.size := h.facts.2.2.2.2
theorem Bo.keep {w w' : World} {S T R : Value} (h : Bo w w' S T R) : w'.cell? ⟨w.heap.size, 0, none⟩ = some S ∧ w'.cell? ⟨w.heap.size + 1, 0, none⟩ = some T ∧ Bo w w' S T R := ⟨h.facts.1, h.facts.2.1, h⟩
theorem Bo.all {w w' : World} {S T R : Value} (h : Bo w w' S T R) : w'.cell? ⟨w.heap.size, 0, none⟩ = some S ∧ w'.cell? ⟨w.heap.size + 1, 0, none⟩ = some T ∧ w'.cell? ⟨w.heap.size + 1 + 1, 0, none⟩ = some R ∧ w'.frozen? ⟨w.heap.size + 1 + 1, 0, none⟩ = false ∧ w.heap.size + 1 + 1 < w'.heap.size ∧ Bo w w' S T R := ⟨h.facts.1, h.facts.2.1, h.facts.2.2.1, h.facts.2.2.2.1, h.facts.2.2.2.2, h⟩

end Go.Proofs.YtdcmpnjhomhhiaaGreat
