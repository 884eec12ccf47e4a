/- An argument of type [2]uint32, opened. -/
import Derived.Test.YtjifpiaianmmbaaProg
import Derived.Test.YtjifpiaianmmbaaBase
import Derived.Test.YtjifpiaianmmbaaFields
import Derived.OpenShut
set_option linter.unusedVariables false
namespace Go.Proofs.Ytjifpiaianmmbaa
open Go.ChangeShapes Go.WideShapes Go.RowKit

theorem okWide_arr {P : Program} {w : World} {r : Reach} {base n : Nat} {t e : TypeId} {v : Value} (ht : P.underlying t = some (.array n e)) (h : Value.okWide P w r base t v) : ∃ cs, v = .agg cs ∧ cs.size = P.cellsOf t := by
  simp only [Value.okWide, ht] at h
  obtain ⟨cs, h1, h2, _⟩ := h
  exact ⟨cs, h1, h2⟩
theorem open_two32 {H : Type} {enc : TypeId × Value → H} {W : World} {base : Nat} {v : Value} {d : DataW H} {p : List MemPlace}
    (hv : Value.okWide Try.prog W .any base 35 v) (hj : DataW.Trod enc Try.prog W 0 (fun _ => true) true 35 v d p) :
    ∃ x y : Int, v = .agg #[.int .u32 x, .int .u32 y] ∧ (0 ≤ x ∧ x ≤ 4294967295) ∧ (0 ≤ y ∧ y ≤ 4294967295) := by
  obtain ⟨cs, rfl, hsz⟩ := okWide_arr Try.underlying35 hv
  obtain ⟨l⟩ := cs
  have hC : Try.prog.cellsOf 35 = 2 := by kernel_rfl
  match l, hsz.trans hC with
  | [c0, c1], _ =>
    obtain ⟨fuel, hf⟩ := hj
    obtain ⟨xs, n, _, _, _, hlen, hg⟩ := DataW.trod_array Try.underlying35 hf
    have h1c : Try.prog.cellsOf 34 = 1 := by kernel_rfl
    have h0 := hg 0 (by omega)
    have h1 := hg 1 (by omega)
    simp [Value.cells, h1c] at h0 h1
    match xs, hlen with
    | [y0, y1], _ =>
      obtain ⟨a0, e0, _, w0⟩ := DataW.trod_int (x := y0) Try.underlying34 (by simpa using h0)
      obtain ⟨a1, e1, _, w1⟩ := DataW.trod_int (x := y1) Try.underlying34 (by simpa using h1)
      simp at e0 e1
      subst e0 e1
      exact ⟨a0, a1, rfl, (by have h := w0; simp [Lit.wf] at h; exact h), (by have h := w1; simp [Lit.wf] at h; exact h)⟩

end Go.Proofs.Ytjifpiaianmmbaa
