/- An argument of type api.Nat, opened to cells. -/
import Derived.Test.YteclghokkdkolaaG1
import Derived.Test.YteclghokkdkolaaFields
import Derived.Test.YteclghokkdkolaaRows
namespace Go.Proofs.Yteclghokkdkolaa
open Go.ChangeShapes Go.WideShapes Go.RowKit

set_option maxRecDepth 100000 in
theorem open_nat {H : Type} {enc : TypeId × Value → H} {W : World} {base : Nat} {v : Value} {d : DataW H} {p : List MemPlace}
    (hv : Value.okWide Try.prog W .any base 24 v) (hj : DataW.Trod enc Try.prog W 0 (fun _ => true) true 24 v d p) :
    ∃ (D : Option Addr) (n c : Nat) (f : Nat → Nat), v = natv D n c ∧ n ≤ c ∧ c ≤ maxLen ∧ Cells W D n (Lm f) ∧ ∀ j, j < n → f j < 4294967296 := by
  obtain ⟨cs, rfl, hsz⟩ := okWide_struct Try.underlying24 hv
  have h1 : cs.size = 1 := hsz.trans (by kernel_rfl)
  obtain ⟨v0, rfl⟩ : ∃ v0, cs = #[v0] := by
    obtain ⟨l⟩ := cs
    match l, h1 with
    | [a], _ => exact ⟨a, rfl⟩
  obtain ⟨fuel, hf⟩ := hj
  obtain ⟨y0, m, _, _, h0⟩ := trod_struct1 Try.underlying24 hf
  have hk : Try.prog.cellsOf 22 = 1 := by kernel_rfl
  have h0 : DataW.trod enc Try.prog W 0 (fun _ => true) true m 22 [v0] = some y0 := by simpa [Value.cells, hk] using h0
  rcases open_ints Try.underlying22 Try.underlying43 (by kernel_rfl) h0 with ⟨hcs, _⟩ | ⟨a, len, cap, zs, hcs, _, hl, hm, hz, _, hcell, hwz⟩
  · simp at hcs
    subst hcs
    exact ⟨none, 0, 0, fun _ => 0, rfl, Nat.le_refl _, Nat.zero_le _, Cells.nil, fun j hj => absurd hj (by omega)⟩
  · simp at hcs
    subst hcs
    have hzl : zs.length = cap := by simpa using hz
    have hw : ∀ i, i < cap → 0 ≤ zs.getD i 0 ∧ zs.getD i 0 ≤ 4294967295 := by
      intro i hi
      have h := hwz (zs.getD i 0) (by rw [List.getD_eq_getElem?_getD, List.getElem?_eq_getElem (by omega)]; exact List.getElem_mem _)
      simp [Lit.wf] at h
      exact h
    refine ⟨some a, len, cap, fun i => (zs.getD i 0).toNat, rfl, hl, hm, Cells.mk_ fun j hj => ?_, fun j hj => ?_⟩
    · have := hw j (by omega)
      rw [hcell j (by omega)]
      unfold Lm
      rw [Int.toNat_of_nonneg this.1]
    · have := hw j (by omega)
      show (zs.getD j 0).toNat < 4294967296
      omega
end Go.Proofs.Yteclghokkdkolaa
