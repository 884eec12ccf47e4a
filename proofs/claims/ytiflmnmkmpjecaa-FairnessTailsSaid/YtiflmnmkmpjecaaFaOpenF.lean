/- (for the chapter of fairness) Arguments of type api.Frac, opened to cells; the law's tests on them. -/
import Derived.Test.YtiflmnmkmpjecaaG14
import Derived.Test.YtiflmnmkmpjecaaFrRValid
import Derived.Test.YtiflmnmkmpjecaaG6
import Derived.Test.YtiflmnmkmpjecaaRows
import Derived.Lib.SmallJoins
set_option linter.unusedVariables false
namespace Go.Proofs.Ytiflmnmkmpjecaa
open Go.ChangeShapes Go.WideShapes Go.RowKit Go.Joins
set_option maxRecDepth 100000 in
theorem open_limbs {H : Type} {enc : TypeId × Value → H} {W : World} {v0 : Value} {k : Nat} {y0 : DataW H × List MemPlace}
    (h : DataW.trod enc Try.prog W 0 (fun _ => true) true k 32 [v0] = some y0) :
    ∃ (D : Option Addr) (n c : Nat) (f : Nat → Nat), v0 = .slice D n c ∧ n ≤ c ∧ c ≤ maxLen ∧ Cells W D n (Lm f) ∧ ∀ j, j < n → f j < 4294967296 := by
  obtain ⟨y1, m, _, _, h0⟩ := trod_struct1 Try.underlying32 h
  have hk : Try.prog.cellsOf 30 = 1 := by kernel_rfl
  have h0 : DataW.trod enc Try.prog W 0 (fun _ => true) true m 30 [v0] = some y1 := by simpa [hk] using h0
  rcases open_ints Try.underlying30 Try.underlying88 (by kernel_rfl) h0 with ⟨hcs, _⟩ | ⟨a, len, cap, zs, hcs, _, hl, hm, hz, _, hcell, hwz⟩
  · simp at hcs
    subst hcs
    exact ⟨none, 0, 0, fun _ => 0, rfl, Nat.le_refl _, Nat.zero_le _, Cells.nil, fun j hj => absurd hj (by omega)⟩
  · simp at hcs
    subst hcs
    have hzl : zs.length = cap := by simpa using hz
    have hw : ∀ i, i < cap → 0 ≤ zs.getD i 0 ∧ zs.getD i 0 ≤ 4294967295 := by
      intro i hi
      have h := hwz (zs.getD i 0) (by rw [List.getD_eq_getElem?_getD, List.getElem?_eq_getElem (by omega)]; exact List.getElem_mem _)
      simp [Lit.wf] at h
      exact h
    refine ⟨some a, len, cap, fun i => (zs.getD i 0).toNat, rfl, hl, hm, Cells.mk_ fun j hj => ?_, fun j hj => ?_⟩
    · have := hw j (by omega)
      rw [hcell j (by omega)]
      unfold Lm
      rw [Int.toNat_of_nonneg this.1]
    · have := hw j (by omega)
      show (zs.getD j 0).toNat < 4294967296
      omega
/-- The limbs of a fraction that came in. -/
structure FrArg (W : World) (D : Option Addr) (n c : Nat) (f : Nat → Nat) (E : Option Addr) (m c' : Nat) (g : Nat → Nat) : Prop where
  nc : n ≤ c
  cm : c ≤ maxLen
  mc : m ≤ c'
  cm' : c' ≤ maxLen
  cf : Cells W D n (Lm f)
  cg : Cells W E m (Lm g)
  wf : ∀ j, j < n → f j < 4294967296
  wg : ∀ j, j < m → g j < 4294967296
set_option maxRecDepth 100000 in
theorem open_frac {H : Type} {enc : TypeId × Value → H} {W : World} {base : Nat} {v : Value} {d : DataW H} {p : List MemPlace}
    (hv : Value.okWide Try.prog W .any base 34 v) (hj : DataW.Trod enc Try.prog W 0 (fun _ => true) true 34 v d p) :
    ∃ (D : Option Addr) (n c : Nat) (f : Nat → Nat) (E : Option Addr) (m c' : Nat) (g : Nat → Nat), v = Fr.fv D n c E m c' ∧ FrArg W D n c f E m c' g := by
  obtain ⟨c0, c1, y0, y1, k, rfl, _, _, h0, h1⟩ := open_agg2 Try.underlying34 (by kernel_rfl) (by kernel_rfl) hv hj
  obtain ⟨D, n, c, f, rfl, a1, a2, a3, a4⟩ := open_limbs h0
  obtain ⟨E, m, c', g, rfl, b1, b2, b3, b4⟩ := open_limbs h1
  exact ⟨D, n, c, f, E, m, c', g, rfl, a1, a2, b1, b2, a3, b3, a4, b4⟩
namespace Fr
/-- Is the fraction of these limbs valid? -/
def fvd (n : Nat) (f : Nat → Nat) (m : Nat) (g : Nat → Nat) : Bool := vd n f && vd m g && fok (v32 f n) (v32 g m)
theorem max9 : maxLen ≤ 9223372036854775807 := by unfold maxLen; omega
theorem valid_arg {W w : World} {D E : Option Addr} {n m c c' : Nat} {f g : Nat → Nat} (a : FrArg W D n c f E m c' g) (hb : Below W.heap.size W w) :
    Calls Try.prog 48 #[fv D n c E m c'] w fun e w' => e = .returned (.bool (fvd n f m g)) ∧ Below w.heap.size w w' := by
  have hn : n ≤ 9223372036854775807 := Nat.le_trans (Nat.le_trans a.nc a.cm) max9
  have hm : m ≤ 9223372036854775807 := Nat.le_trans (Nat.le_trans a.mc a.cm') max9
  unfold fvd
  cases h0 : vd n f with
  | false => exact valid_bad hn hm (a.cf.below hb) (a.cg.below hb) (.inl h0)
  | true =>
    cases h1 : vd m g with
    | false => exact valid_bad hn hm (a.cf.below hb) (a.cg.below hb) (.inr ⟨h0, h1⟩)
    | true =>
      obtain ⟨p0, p1, p2⟩ := vd_num a.wf h0
      obtain ⟨q0, q1, q2⟩ := vd_num a.wg h1
      exact valid_any p0 q0 p1.symm q1.symm ((a.cf.congr fun j hj => by unfold Lm; rw [p2 j hj]).below hb) ((a.cg.congr fun j hj => by unfold Lm; rw [q2 j hj]).below hb)
theorem rvalid_arg {W w : World} {D E : Option Addr} {n m c c' : Nat} {f g : Nat → Nat} (a : FrArg W D n c f E m c' g) (hb : Below W.heap.size W w) :
    Calls Try.prog 44 #[fv D n c E m c'] w fun e w' => e = .returned (.bool (fvd n f m g)) ∧ Below w.heap.size w w' := by
  have hn : n ≤ 9223372036854775807 := Nat.le_trans (Nat.le_trans a.nc a.cm) max9
  have hm : m ≤ 9223372036854775807 := Nat.le_trans (Nat.le_trans a.mc a.cm') max9
  unfold fvd
  cases h0 : vd n f with
  | false => exact rfvalid_bad hn hm (a.cf.below hb) (a.cg.below hb) (.inl h0)
  | true =>
    cases h1 : vd m g with
    | false => exact rfvalid_bad hn hm (a.cf.below hb) (a.cg.below hb) (.inr ⟨h0, h1⟩)
    | true =>
      obtain ⟨p0, p1, p2⟩ := vd_num a.wf h0
      obtain ⟨q0, q1, q2⟩ := vd_num a.wg h1
      exact rfvalid_any p0 q0 p1.symm q1.symm ((a.cf.congr fun j hj => by unfold Lm; rw [p2 j hj]).below hb) ((a.cg.congr fun j hj => by unfold Lm; rw [q2 j hj]).below hb)
theorem FrArg.num {W : World} {D E : Option Addr} {n m c c' : Nat} {f g : Nat → Nat} (a : FrArg W D n c f E m c' g) (h : fvd n f m g = true) : FrNum W D n E m (v32 f n) (v32 g m) := by
  unfold fvd at h
  simp only [Bool.and_eq_true] at h
  obtain ⟨p0, p1, p2⟩ := vd_num a.wf h.1.1
  obtain ⟨q0, q1, q2⟩ := vd_num a.wg h.1.2
  exact ⟨p0, q0, p1.symm, q1.symm, a.cf.congr fun j hj => by unfold Lm; rw [p2 j hj], a.cg.congr fun j hj => by unfold Lm; rw [q2 j hj], h.2⟩
end Fr
end Go.Proofs.Ytiflmnmkmpjecaa
