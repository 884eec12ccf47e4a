/- An argument of type []api.Bracket, opened to cells. -/
import Derived.Test.YtjifpiaianmmbaaBase
import Derived.Test.YtjifpiaianmmbaaFields
import Derived.Test.YtjifpiaianmmbaaRows
namespace Go.Proofs.Ytjifpiaianmmbaa
open Go.ChangeShapes Go.WideShapes Go.RowKit

theorem open_brk {H : Type} {enc : TypeId × Value → H} {W : World} {base : Nat} {v : Value} {d : DataW H} {p : List MemPlace}
    (hv : Value.okWide Try.prog W .any base 22 v) (hj : DataW.Trod enc Try.prog W 0 (fun _ => true) true 22 v d p) :
    ∃ (A : Option Addr) (n c : Nat) (F R : Nat → Int), v = .slice A n c ∧ n ≤ c ∧ c ≤ maxLen ∧ Cells W A (n * 2) (Two F R) ∧ ∀ i, i < n → (Lit.int .i64 (F i)).wf = true ∧ (Lit.int .i64 (R i)).wf = true := by
  obtain ⟨a0, len, cap, rfl⟩ := okWide_slice Try.underlying22 hv
  obtain ⟨fuel, hf⟩ := hj
  rcases open_slice_fields Try.underlying22 Try.underlying42 (by kernel_rfl) (by kernel_rfl) hf with ⟨hcs, _⟩ | ⟨a, l, c, m, D, Pl, hcs, _, hl, hc, hm, _, hi⟩
  · simp [Value.cells] at hcs
    obtain ⟨rfl, rfl, rfl⟩ := hcs
    exact ⟨none, 0, 0, fun _ => 0, fun _ => 0, rfl, Nat.le_refl _, Nat.zero_le _, Cells.nil, fun i hi => absurd hi (by omega)⟩
  · simp [Value.cells] at hcs
    obtain ⟨rfl, rfl, rfl⟩ := hcs
    have key : ∀ i, i < len → ∃ x y : Int, W.cell? (a.add (i * 2)) = some (.int .i64 x) ∧ W.cell? (a.add (i * 2 + 1)) = some (.int .i64 y) ∧ (Lit.int .i64 x).wf = true ∧ (Lit.int .i64 y).wf = true := by
      intro i hil
      obtain ⟨ys, n, _, _, _, hff⟩ := hi i (by rw [hm]; simp; omega)
      obtain ⟨v0, y0, hc0, hy0, ht0⟩ := hff 0 _ rfl
      obtain ⟨v1, y1, hc1, hy1, ht1⟩ := hff 1 _ rfl
      obtain ⟨x, e0, _, wx⟩ := DataW.trod_int Try.underlying3 ht0
      obtain ⟨y, e1, _, wy⟩ := DataW.trod_int Try.underlying3 ht1
      simp at e0 e1
      subst e0 e1
      exact ⟨x, y, hc0, hc1, wx, wy⟩
    obtain ⟨f, hfr⟩ := pick (P := fun i (x : Int × Int) => W.cell? (a.add (i * 2)) = some (.int .i64 x.1) ∧ W.cell? (a.add (i * 2 + 1)) = some (.int .i64 x.2) ∧ (Lit.int .i64 x.1).wf = true ∧ (Lit.int .i64 x.2).wf = true)
      fun i hi => by obtain ⟨x, y, h⟩ := key i hi; exact ⟨(x, y), h⟩
    refine ⟨some a, len, cap, fun i => (f i).1, fun i => (f i).2, rfl, hl, hc, Cells.mk_ fun j hj => ?_, fun i hi => (hfr i hi).2.2⟩
    have hs := hfr (j / 2) (by omega)
    unfold Two
    by_cases h2 : j % 2 = 0
    · rw [if_pos h2, ← hs.1, show j / 2 * 2 = j by omega]
    · rw [if_neg h2, ← hs.2.1, show j / 2 * 2 + 1 = j by omega]
end Go.Proofs.Ytjifpiaianmmbaa
