/- Words shared by the walks that append: rows of cells made by the call itself. -/
import Derived.Test.YtjjilnipmoanlaaBase
import Derived.Deep.AppendLies
set_option linter.unusedVariables false
namespace Go.Proofs.Ytjjilnipmoanlaa
open Go.RowKit

/-- The first m values of a sequence. -/
def row (m : Nat) (G : Nat → Value) : List Value := (List.range m).map G
theorem row_length (m : Nat) (G : Nat → Value) : (row m G).length = m := by simp [row]
theorem row_get {m j : Nat} {G : Nat → Value} (h : j < m) : (row m G)[j]? = some (G j) := by simp [row, h]
theorem row_zero (G : Nat → Value) : row 0 G = [] := rfl
theorem row_one (m : Nat) (G : Nat → Value) : row (m + 1) G = row m G ++ [G m] := by simp [row, List.range_succ]
theorem row_two (m : Nat) (G : Nat → Value) : row (m + 2) G = row m G ++ [G m, G (m + 1)] := by
  rw [row_one (m + 1), row_one m, List.append_assoc]; rfl
theorem row_three (m : Nat) (G : Nat → Value) : row (m + 3) G = row m G ++ [G m, G (m + 1), G (m + 2)] := by
  rw [row_one (m + 2), row_two m, List.append_assoc]; rfl
theorem row_congr {m : Nat} {G G' : Nat → Value} (h : ∀ j, j < m → G j = G' j) : row m G = row m G' := by
  unfold row
  exact List.map_congr_left fun j hj => h j (List.mem_range.1 hj)

/-- A slice of the call's own is a slice of that length. -/
theorem own_slice {w : World} {base : Nat} {e : TypeId} {size : Nat} {v : Value} {n : Nat} {xs : List Value} (h : w.ownsRow base e size v n xs) : ∃ A c, v = .slice A n c ∧ n ≤ c := by
  rcases h.2 with ⟨rfl, rfl⟩ | ⟨g, cap, cur, rfl, _, _, hc, _⟩
  · exact ⟨none, 0, rfl, Nat.le_refl _⟩
  · exact ⟨_, _, rfl, hc⟩
theorem Cells.of_own {w : World} {base : Nat} {e : TypeId} {size n c : Nat} {A : Option Addr} {G : Nat → Value} (h : w.ownsRow base e size (.slice A n c) n (row (n * size) G)) : Cells w A (n * size) G := fun h0 => by
  have hn : 0 < n := by
    rcases Nat.eq_zero_or_pos n with e0 | e0
    · subst e0; simp at h0
    · exact e0
  obtain ⟨g, cap, hv, hb, hlt⟩ := h.form hn
  injection hv with hA hn' hc
  subst hA
  refine ⟨g, 0, rfl, hlt, fun j hj => ?_⟩
  have := h.cells (g := g) rfl j (G j) (row_get hj)
  unfold Addr.add at this
  by_cases hz : j = 0
  · subst hz; simpa using this
  · rw [if_neg hz] at this; simpa using this
/-- Behind an append onto a slice of the call's own nothing older has turned. -/
theorem own_below {B : Nat} {w0 w w' : World} {e : TypeId} {size : Nat} {v : Value} {n : Nat} {xs : List Value} (h : Below B w0 w) (hown : w.ownsRow B e size v n xs) (hB : B ≤ w.heap.size) (hg : w.grownBy w' v.ownBlock) : Below B w0 w' :=
  h.grown hg hB fun k hk => (hown.lt k hk).1
/-- An own row is kept by what happens from B' on, where its block lies below. -/
theorem own_keep {B : Nat} {w w' : World} {e : TypeId} {size : Nat} {v : Value} {n : Nat} {xs : List Value} (hown : w.ownsRow B e size v n xs) (h : Below w.heap.size w w') : w'.ownsRow B e size v n xs := by
  refine ⟨hown.1, ?_⟩
  rcases hown.2 with hn | ⟨g, cap, cur, hv, hb, hg, h3⟩
  · exact .inl hn
  · refine .inr ⟨g, cap, cur, hv, hb, ?_, h3⟩
    rw [h.block g ?_]
    · exact hg
    · rcases Nat.lt_or_ge g w.heap.size with hl | hl
      · exact hl
      · rw [Array.getElem?_eq_none hl] at hg; cases hg
end Go.Proofs.Ytjjilnipmoanlaa
