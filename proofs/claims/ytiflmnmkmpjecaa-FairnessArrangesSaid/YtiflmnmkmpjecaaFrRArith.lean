/- The walks of the reference's Mul and Div of fractions. -/
import Derived.Test.YtiflmnmkmpjecaaFrRValid
import Derived.Test.YtiflmnmkmpjecaaFrArith
import Derived.Test.YtiflmnmkmpjecaaNatRProd
import Derived.Test.YtiflmnmkmpjecaaNatRDiff
set_option linter.unusedVariables false
namespace Go.Proofs.Ytiflmnmkmpjecaa
open Go.RowKit
namespace Fr
/-- A number in letters, or an overflow. -/
def NF (B : Nat) (w : World) (p : Nat) (D : Option Addr) (l c y : Nat) : Prop :=
  (L32 p ≤ 64 ∧ y = 0 ∧ l = L32 p ∧ Cells w D l (Lm (d32 p)) ∧ Fresh B D) ∨ (64 < L32 p ∧ y = 9 ∧ D = none ∧ l = 0 ∧ c = 0)
section
variable {B p l c y : Nat} {D : Option Addr} {w w' : World}
theorem NF.below (h : NF B w p D l c y) (hb : Below w.heap.size w w') : NF B w' p D l c y := by
  rcases h with ⟨a, b, e, h, f⟩ | h
  · exact .inl ⟨a, b, e, h.below hb, f⟩
  · exact .inr h
theorem NF.alloc (h : NF B w p D l c y) (o : Obj) : NF B (w.alloc o) p D l c y := by
  rcases h with ⟨a, b, e, h, f⟩ | h
  · exact .inl ⟨a, b, e, h.alloc o, f⟩
  · exact .inr h
end
theorem NF.of_res {B : Nat} {w' : World} {e : Ending} {p : Nat} (h : NatRes B w' e p) : ∃ D l c y, e = .returned (.tuple #[natv D l c, .int .i64 (y : Nat)]) ∧ NF B w' p D l c y := by
  rcases h with ⟨h, D, c, rfl, _, hc, hf⟩ | ⟨h, rfl⟩
  · exact ⟨D, _, c, 0, rfl, .inl ⟨h, rfl, rfl, hc, hf⟩⟩
  · exact ⟨none, 0, 0, 9, rfl, .inr ⟨h, rfl, rfl, rfl, rfl⟩⟩
theorem mulN {D E : Option Addr} {n m c c' x y : Nat} {w : World} (hn : n ≤ 64) (hm : m ≤ 64) (hnx : n = L32 x) (hmy : m = L32 y) (hx : Cells w D n (Lm (d32 x))) (hy : Cells w E m (Lm (d32 y))) :
    Calls Try.prog 74 #[natv D n c, natv E m c'] w fun e w' => ∃ Dr l cr v, e = .returned (.tuple #[natv Dr l cr, .int .i64 (v : Nat)]) ∧ NF w.heap.size w' (x * y) Dr l cr v ∧ Below w.heap.size w w' :=
  (refMul_any hn hm hnx hmy hx hy).mono fun e w' ⟨h, hb⟩ => by
    obtain ⟨D, l, c, v, h1, h2⟩ := NF.of_res h
    exact ⟨D, l, c, v, h1, h2, hb⟩
theorem addN {D E : Option Addr} {n m c c' x y : Nat} {w : World} (hn : n ≤ 64) (hm : m ≤ 64) (hnx : n = L32 x) (hmy : m = L32 y) (hx : Cells w D n (Lm (d32 x))) (hy : Cells w E m (Lm (d32 y))) :
    Calls Try.prog 46 #[natv D n c, natv E m c'] w fun e w' => ∃ Dr l cr v, e = .returned (.tuple #[natv Dr l cr, .int .i64 (v : Nat)]) ∧ NF w.heap.size w' (x + y) Dr l cr v ∧ Below w.heap.size w w' :=
  (refAdd_any hn hm hnx hmy hx hy).mono fun e w' ⟨h, hb⟩ => by
    obtain ⟨D, l, c, v, h1, h2⟩ := NF.of_res h
    exact ⟨D, l, c, v, h1, h2, hb⟩
set_option maxHeartbeats 4000000 in
theorem radd_no {D0 D1 D2 D3 : Option Addr} {n0 n1 n2 n3 c0 c1 c2 c3 : Nat} {b0 b1 : Bool} {w : World}
    (k0 : ∀ w', Below w.heap.size w w' → Calls Try.prog 44 #[.agg #[.slice D0 n0 c0, .slice D1 n1 c1]] w' fun e w'' => e = .returned (.bool b0) ∧ Below w'.heap.size w' w'')
    (k1 : ∀ w', Below w.heap.size w w' → Calls Try.prog 44 #[.agg #[.slice D2 n2 c2, .slice D3 n3 c3]] w' fun e w'' => e = .returned (.bool b1) ∧ Below w'.heap.size w' w'') (hb : b0 = false ∨ b0 = true ∧ b1 = false) :
    Calls Try.prog 18 #[fv D0 n0 c0 D1 n1 c1, fv D2 n2 c2 D3 n3 c3] w fun e w' => Err e 2 ∧ Below w.heap.size w w' := by
  have HK := Lib.hid k0
  have HK2 := Lib.hid k1
  have BS0 := Lib.hid (boxesF w (.slice D0 n0 c0) (.slice D1 n1 c1) (.slice D2 n2 c2) (.slice D3 n3 c3))
  clear k0 k1
  unfold fv
  rcases hb with rfl | ⟨rfl, rfl⟩
  · go_enter Try.func18, Try.ntmps18
    go_wp2_with fail
    refine (HK.out _ BS0.out.below).mono ?_
    rintro e w1 ⟨rfl, hb1⟩
    have bs := BS0.out.on hb1
    obtain ⟨z, hz⟩ : ∃ z, z = w.heap.size + 1 + 1 := ⟨_, rfl⟩
    rw [← hz] at bs ⊢
    have hzw : w.heap.size ≤ z := by omega
    obtain ⟨_, lz, kz⟩ := bs.get (.head _)
    have HB := Lib.hid bs.below
    have r0 : w1.cell? ⟨z, 0, none⟩ = some (.slice none 0 0) := kz.cell 0
    have r1 : w1.cell? ⟨z, 1, none⟩ = some (.slice none 0 0) := kz.cell 1
    have f0 : w1.frozen? ⟨z, 0, none⟩ = false := kz.frozen 0
    have f1 : w1.frozen? ⟨z, 1, none⟩ = false := kz.frozen 1
    clear bs kz hz hb1
    go_wp2
    refine bodyPost_ret (v := .tuple #[fv none 0 0 none 0 0, .int .i64 2]) (by unfold fv; simp [results, Try.results18, go_sem, r0, r1]) rfl ?_
    refine ⟨rfl, ?_⟩
    repeat' (first | exact HB.out | refine bl_alloc ?_ _ | refine bse ?_ (by assumption) _ _ | refine Below.drew ?_)
  · go_enter Try.func18, Try.ntmps18
    go_wp2_with fail
    refine (HK.out _ BS0.out.below).mono ?_
    rintro e w1 ⟨rfl, hb1⟩
    have BS1 := Lib.hid (BS0.out.on hb1)
    obtain ⟨_, lb, kb⟩ := BS1.out.get (.tail _ (.head _))
    have qa : w1.cell? ⟨w.heap.size + 1, 0, none⟩ = some (.slice D2 n2 c2) := kb.cell 0
    have qb : w1.cell? ⟨w.heap.size + 1, 1, none⟩ = some (.slice D3 n3 c3) := kb.cell 1
    clear hb1 kb BS0
    go_wp2_with fail
    refine (HK2.out _ BS1.out.below).mono ?_
    rintro e w2 ⟨rfl, hb1⟩
    clear qa qb lb
    have bs := BS1.out.on hb1
    obtain ⟨z, hz⟩ : ∃ z, z = w.heap.size + 1 + 1 := ⟨_, rfl⟩
    rw [← hz] at bs ⊢
    have hzw : w.heap.size ≤ z := by omega
    obtain ⟨_, lz, kz⟩ := bs.get (.head _)
    have HB := Lib.hid bs.below
    have r0 : w2.cell? ⟨z, 0, none⟩ = some (.slice none 0 0) := kz.cell 0
    have r1 : w2.cell? ⟨z, 1, none⟩ = some (.slice none 0 0) := kz.cell 1
    have f0 : w2.frozen? ⟨z, 0, none⟩ = false := kz.frozen 0
    have f1 : w2.frozen? ⟨z, 1, none⟩ = false := kz.frozen 1
    clear bs kz hz hb1
    go_wp2
    refine bodyPost_ret (v := .tuple #[fv none 0 0 none 0 0, .int .i64 2]) (by unfold fv; simp [results, Try.results18, go_sem, r0, r1]) rfl ?_
    refine ⟨rfl, ?_⟩
    repeat' (first | exact HB.out | refine bl_alloc ?_ _ | refine bse ?_ (by assumption) _ _ | refine Below.drew ?_)
end Fr
end Go.Proofs.Ytiflmnmkmpjecaa
