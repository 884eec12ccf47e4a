/- An argument of type []api.Debt or []int, opened to cells. -/
import Derived.Test.YtjifpiaianmmbaaBase
import Derived.Test.YtjifpiaianmmbaaFields
import Derived.Test.YtjifpiaianmmbaaDebtOffset
set_option linter.unusedVariables false
namespace Go.Proofs.Ytjifpiaianmmbaa
open Go.ChangeShapes Go.WideShapes Go.RowKit

theorem open_debts {H : Type} {enc : TypeId × Value → H} {W : World} {base : Nat} {v : Value} {d : DataW H} {p : List MemPlace}
    (hv : Value.okWide Try.prog W .any base 23 v) (hj : DataW.Trod enc Try.prog W 0 (fun _ => true) true 23 v d p) :
    ∃ (D : Option Addr) (n c : Nat) (C : Nat → ByteArray) (R A : Nat → Int), v = .slice D n c ∧ n ≤ c ∧ c ≤ maxLen ∧ Cells W D (n * 3) (Three C R A) ∧ (∀ i, i < n → (C i).size ≤ maxLen) ∧ ∀ i, i < n → (Lit.int .i64 (R i)).wf = true ∧ (Lit.int .i64 (A i)).wf = true := by
  obtain ⟨a0, len, cap, rfl⟩ := okWide_slice Try.underlying23 hv
  obtain ⟨fuel, hf⟩ := hj
  rcases open_slice_fields Try.underlying23 Try.underlying40 (by kernel_rfl) (by kernel_rfl) hf with ⟨hcs, _⟩ | ⟨a, l, c, m, D, Pl, hcs, _, hl, hc, hm, _, hi⟩
  · simp [Value.cells] at hcs
    obtain ⟨rfl, rfl, rfl⟩ := hcs
    exact ⟨none, 0, 0, fun _ => ByteArray.empty, fun _ => 0, fun _ => 0, rfl, Nat.le_refl _, Nat.zero_le _, Cells.nil, fun i hi => absurd hi (by omega), fun i hi => absurd hi (by omega)⟩
  · simp [Value.cells] at hcs
    obtain ⟨rfl, rfl, rfl⟩ := hcs
    have key : ∀ i, i < len → ∃ x : ByteArray × Int × Int, W.cell? (a.add (i * 3)) = some (.string x.1) ∧ W.cell? (a.add (i * 3 + 1)) = some (.int .i64 x.2.1) ∧ W.cell? (a.add (i * 3 + 2)) = some (.int .i64 x.2.2) ∧ x.1.size ≤ maxLen ∧ (Lit.int .i64 x.2.1).wf = true ∧ (Lit.int .i64 x.2.2).wf = true := by
      intro i hil
      obtain ⟨ys, n, _, _, _, hff⟩ := hi i (by rw [hm]; simp; omega)
      obtain ⟨v0, y0, hc0, hy0, ht0⟩ := hff 0 _ rfl
      obtain ⟨v1, y1, hc1, hy1, ht1⟩ := hff 1 _ rfl
      obtain ⟨v2, y2, hc2, hy2, ht2⟩ := hff 2 _ rfl
      obtain ⟨s, e0, _, ws⟩ := DataW.trod_string Try.underlying9 ht0
      obtain ⟨x, e1, _, wx⟩ := DataW.trod_int Try.underlying3 ht1
      obtain ⟨y, e2, _, wy⟩ := DataW.trod_int Try.underlying3 ht2
      simp at e0 e1 e2
      subst e0 e1 e2
      exact ⟨(s, x, y), hc0, hc1, hc2, ws, wx, wy⟩
    obtain ⟨f, hfr⟩ := pick key
    refine ⟨some a, len, cap, fun i => (f i).1, fun i => (f i).2.1, fun i => (f i).2.2, rfl, hl, hc, Cells.mk_ fun j hj => ?_, fun i hi => (hfr i hi).2.2.2.1, fun i hi => (hfr i hi).2.2.2.2⟩
    have hs := hfr (j / 3) (by omega)
    unfold Three
    by_cases h0 : j % 3 = 0
    · rw [if_pos h0, ← hs.1, show j / 3 * 3 = j by omega]
    · by_cases h1 : j % 3 = 1
      · rw [if_neg h0, if_pos h1, ← hs.2.1, show j / 3 * 3 + 1 = j by omega]
      · rw [if_neg h0, if_neg h1, ← hs.2.2.1, show j / 3 * 3 + 2 = j by omega]

theorem open_intsl {H : Type} {enc : TypeId × Value → H} {W : World} {base : Nat} {v : Value} {d : DataW H} {p : List MemPlace}
    (hv : Value.okWide Try.prog W .any base 25 v) (hj : DataW.Trod enc Try.prog W 0 (fun _ => true) true 25 v d p) :
    ∃ (D : Option Addr) (n c : Nat) (G : Nat → Int), v = .slice D n c ∧ n ≤ c ∧ c ≤ maxLen ∧ Cells W D (n * 1) (Ints G) ∧ ∀ i, i < n → (Lit.int .i64 (G i)).wf = true := by
  obtain ⟨a0, len, cap, rfl⟩ := okWide_slice Try.underlying25 hv
  obtain ⟨fuel, hf⟩ := hj
  rcases open_ints Try.underlying25 Try.underlying3 (by kernel_rfl) hf with ⟨hcs, _⟩ | ⟨a, l, c, zs, hcs, _, hl, hm, hz, _, hcell, hwz⟩
  · simp [Value.cells] at hcs
    obtain ⟨rfl, rfl, rfl⟩ := hcs
    exact ⟨none, 0, 0, fun _ => 0, rfl, Nat.le_refl _, Nat.zero_le _, Cells.nil, fun i hi => absurd hi (by omega)⟩
  · simp [Value.cells] at hcs
    obtain ⟨rfl, rfl, rfl⟩ := hcs
    have hzl : zs.length = cap := by simpa using hz
    exact ⟨some a, len, cap, fun i => zs.getD i 0, rfl, hl, hm, Cells.mk_ fun j hj => hcell j (by omega), fun i hi => hwz _ (by
      show zs.getD i 0 ∈ zs
      rw [List.getD_eq_getElem?_getD, List.getElem?_eq_getElem (by omega)]
      exact List.getElem_mem _)⟩
end Go.Proofs.Ytjifpiaianmmbaa
