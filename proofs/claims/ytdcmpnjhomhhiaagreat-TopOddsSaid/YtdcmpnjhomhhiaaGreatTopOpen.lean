/- An argument of type [5]uint8, opened; TopOdds over all arguments. -/
import Derived.Test.YtdcmpnjhomhhiaaGreatTopLaw
import Derived.Test.YtdcmpnjhomhhiaaGreatFields
import Derived.Test.YtdcmpnjhomhhiaaGreatRows
import Derived.OpenShut
set_option linter.unusedVariables false
namespace Go.Proofs.YtdcmpnjhomhhiaaGreat
open Go.ChangeShapes Go.WideShapes Go.RowKit

theorem okWide_arr {P : Program} {w : World} {r : Reach} {base n : Nat} {t e : TypeId} {v : Value} (ht : P.underlying t = some (.array n e)) (h : Value.okWide P w r base t v) : ∃ cs, v = .agg cs ∧ cs.size = P.cellsOf t := by
  simp only [Value.okWide, ht] at h
  obtain ⟨cs, h1, h2, _⟩ := h
  exact ⟨cs, h1, h2⟩
set_option maxRecDepth 100000 in
theorem open_five8 {H : Type} {enc : TypeId × Value → H} {W : World} {base : Nat} {v : Value} {d : DataW H} {p : List MemPlace}
    (hv : Value.okWide Tryz.prog W .any base 22 v) (hj : DataW.Trod enc Tryz.prog W 0 (fun _ => true) true 22 v d p) :
    ∃ a0 a1 a2 a3 a4 : Int, v = .agg #[.int .u8 a0, .int .u8 a1, .int .u8 a2, .int .u8 a3, .int .u8 a4] ∧ (0 ≤ a0 ∧ a0 ≤ 255) ∧ (0 ≤ a1 ∧ a1 ≤ 255) ∧ (0 ≤ a2 ∧ a2 ≤ 255) ∧ (0 ≤ a3 ∧ a3 ≤ 255) ∧ (0 ≤ a4 ∧ a4 ≤ 255) := by
  obtain ⟨cs, rfl, hsz⟩ := okWide_arr Tryz.underlying22 hv
  obtain ⟨l⟩ := cs
  have hC : Tryz.prog.cellsOf 22 = 5 := by kernel_rfl
  match l, hsz.trans hC with
  | [c0, c1, c2, c3, c4], _ =>
    obtain ⟨fuel, hf⟩ := hj
    obtain ⟨xs, n, _, _, _, hlen, hg⟩ := DataW.trod_array Tryz.underlying22 hf
    have h1c : Tryz.prog.cellsOf 5 = 1 := by kernel_rfl
    have h0 := hg 0 (by omega)
    have h1 := hg 1 (by omega)
    have h2 := hg 2 (by omega)
    have h3 := hg 3 (by omega)
    have h4 := hg 4 (by omega)
    simp [Value.cells, h1c] at h0 h1 h2 h3 h4
    match xs, hlen with
    | [y0, y1, y2, y3, y4], _ =>
      obtain ⟨a0, e0, _, w0⟩ := DataW.trod_int (x := y0) Tryz.underlying5 (by simpa using h0)
      obtain ⟨a1, e1, _, w1⟩ := DataW.trod_int (x := y1) Tryz.underlying5 (by simpa using h1)
      obtain ⟨a2, e2, _, w2⟩ := DataW.trod_int (x := y2) Tryz.underlying5 (by simpa using h2)
      obtain ⟨a3, e3, _, w3⟩ := DataW.trod_int (x := y3) Tryz.underlying5 (by simpa using h3)
      obtain ⟨a4, e4, _, w4⟩ := DataW.trod_int (x := y4) Tryz.underlying5 (by simpa using h4)
      simp at e0 e1 e2 e3 e4
      subst e0 e1 e2 e3 e4
      exact ⟨a0, a1, a2, a3, a4, rfl, (by have h := w0; simp [Lit.wf] at h; exact h), (by have h := w1; simp [Lit.wf] at h; exact h), (by have h := w2; simp [Lit.wf] at h; exact h), (by have h := w3; simp [Lit.wf] at h; exact h), (by have h := w4; simp [Lit.wf] at h; exact h)⟩
theorem topOdds_walk (W : World) {a0 a1 a2 a3 a4 : Int} (h0 : 0 ≤ a0 ∧ a0 ≤ 255) (h1 : 0 ≤ a1 ∧ a1 ≤ 255) (h2 : 0 ≤ a2 ∧ a2 ≤ 255) (h3 : 0 ≤ a3 ∧ a3 ≤ 255) (h4 : 0 ≤ a4 ∧ a4 ≤ 255) (t : Int) (wt : (Lit.int .u16 t).wf = true) : Calls Tryz.prog 3 #[.agg #[.int .u8 a0, .int .u8 a1, .int .u8 a2, .int .u8 a3, .int .u8 a4], .int .u16 t] W fun e W' => e = .returned (.bool true) ∧ Below W.heap.size W W' := by
  obtain ⟨s0, rfl⟩ := Int.eq_ofNat_of_zero_le h0.1
  obtain ⟨s1, rfl⟩ := Int.eq_ofNat_of_zero_le h1.1
  obtain ⟨s2, rfl⟩ := Int.eq_ofNat_of_zero_le h2.1
  obtain ⟨s3, rfl⟩ := Int.eq_ofNat_of_zero_le h3.1
  obtain ⟨s4, rfl⟩ := Int.eq_ofNat_of_zero_le h4.1
  have ht : 0 ≤ t ∧ t ≤ 65535 := by have h := wt; simp [Lit.wf] at h; exact h
  obtain ⟨dr, rfl⟩ := Int.eq_ofNat_of_zero_le ht.1
  exact Tp.topOdds_nat W rfl rfl rfl rfl rfl rfl (by omega)
end Go.Proofs.YtdcmpnjhomhhiaaGreat
