/- The walk of the law PayoutLooks, and an argument of type api.Order opened to cells. -/
import Derived.Test.YtjjilnipmoanlaaPayRefExact
import Derived.Lib.SmallJoins
set_option linter.unusedVariables false
namespace Go.Proofs.Ytjjilnipmoanlaa
open Go.ChangeShapes Go.WideShapes Go.RowKit Go.Joins

theorem open_order {H : Type} {enc : TypeId × Value → H} {W : World} {base : Nat} {v : Value} {d : DataW H} {p : List MemPlace}
    (hv : Value.okWide Try.prog W .any base 51 v) (hj : DataW.Trod enc Try.prog W 0 (fun _ => true) true 51 v d p) :
    ∃ (g t l : Int) (D : Option Addr) (n c : Nat) (O : Nat → Int), v = .agg #[.int .i64 g, .int .i64 t, .slice D n c, .int .i64 l] ∧ n ≤ c ∧ c ≤ maxLen ∧ Cells W D (n * 1) (Ints O) := by
  obtain ⟨c0, c1, c2, c3, y0, y1, y2, y3, m, rfl, _, _, h0, h1, h2, h3⟩ := open_agg4 Try.underlying51 (by kernel_rfl) (by kernel_rfl) hv hj
  obtain ⟨g, e0, _, _⟩ := DataW.trod_int Try.underlying3 h0
  obtain ⟨t, e1, _, _⟩ := DataW.trod_int Try.underlying3 h1
  obtain ⟨l, e3, _, _⟩ := DataW.trod_int Try.underlying3 h3
  simp at e0 e1 e3
  subst e0 e1 e3
  rcases open_ints Try.underlying35 Try.underlying3 (by kernel_rfl) h2 with ⟨hcs, _⟩ | ⟨a, len, cap, zs, hcs, _, hl, hm, hz, _, hcell, hwz⟩
  · simp at hcs
    subst hcs
    exact ⟨g, t, l, none, 0, 0, fun _ => 0, rfl, Nat.le_refl _, Nat.zero_le _, Cells.nil⟩
  · simp at hcs
    subst hcs
    have hzl : zs.length = cap := by simpa using hz
    exact ⟨g, t, l, some a, len, cap, fun i => zs.getD i 0, rfl, hl, hm, Cells.mk_ fun j hj => hcell j (by omega)⟩
end Go.Proofs.Ytjjilnipmoanlaa
