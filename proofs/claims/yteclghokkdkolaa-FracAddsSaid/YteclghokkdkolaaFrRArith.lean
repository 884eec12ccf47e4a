/- The walks of the reference's Mul and Div of fractions. -/
import Derived.Test.YteclghokkdkolaaFrRValid
import Derived.Test.YteclghokkdkolaaFrArith
import Derived.Test.YteclghokkdkolaaNatRProd
import Derived.Test.YteclghokkdkolaaNatRDiff
set_option linter.unusedVariables false
namespace Go.Proofs.Yteclghokkdkolaa
open Go.RowKit
namespace Fr
/-- A number in letters, or an overflow. -/
def NF (B : Nat) (w : World) (p : Nat) (D : Option Addr) (l c y : Nat) : Prop :=
  (L32 p ≤ 64 ∧ y = 0 ∧ l = L32 p ∧ Cells w D l (Lm (d32 p)) ∧ Fresh B D) ∨ (64 < L32 p ∧ y = 9 ∧ D = none ∧ l = 0 ∧ c = 0)
section
variable {B p l c y : Nat} {D : Option Addr} {w w' : World}
theorem NF.below (h : NF B w p D l c y) (hb : Below w.heap.size w w') : NF B w' p D l c y := by
  rcases h with ⟨a, b, e, h, f⟩ | h
  · exact .inl ⟨a, b, e, h.below hb, f⟩
  · exact .inr h
theorem NF.alloc (h : NF B w p D l c y) (o : Obj) : NF B (w.alloc o) p D l c y := by
  rcases h with ⟨a, b, e, h, f⟩ | h
  · exact .inl ⟨a, b, e, h.alloc o, f⟩
  · exact .inr h
end
theorem NF.of_res {B : Nat} {w' : World} {e : Ending} {p : Nat} (h : NatRes B w' e p) : ∃ D l c y, e = .returned (.tuple #[natv D l c, .int .i64 (y : Nat)]) ∧ NF B w' p D l c y := by
  rcases h with ⟨h, D, c, rfl, _, hc, hf⟩ | ⟨h, rfl⟩
  · exact ⟨D, _, c, 0, rfl, .inl ⟨h, rfl, rfl, hc, hf⟩⟩
  · exact ⟨none, 0, 0, 9, rfl, .inr ⟨h, rfl, rfl, rfl, rfl⟩⟩
theorem mulN {D E : Option Addr} {n m c c' x y : Nat} {w : World} (hn : n ≤ 64) (hm : m ≤ 64) (hnx : n = L32 x) (hmy : m = L32 y) (hx : Cells w D n (Lm (d32 x))) (hy : Cells w E m (Lm (d32 y))) :
    Calls Try.prog 59 #[natv D n c, natv E m c'] w fun e w' => ∃ Dr l cr v, e = .returned (.tuple #[natv Dr l cr, .int .i64 (v : Nat)]) ∧ NF w.heap.size w' (x * y) Dr l cr v ∧ Below w.heap.size w w' :=
  (refMul_any hn hm hnx hmy hx hy).mono fun e w' ⟨h, hb⟩ => by
    obtain ⟨D, l, c, v, h1, h2⟩ := NF.of_res h
    exact ⟨D, l, c, v, h1, h2, hb⟩
theorem addN {D E : Option Addr} {n m c c' x y : Nat} {w : World} (hn : n ≤ 64) (hm : m ≤ 64) (hnx : n = L32 x) (hmy : m = L32 y) (hx : Cells w D n (Lm (d32 x))) (hy : Cells w E m (Lm (d32 y))) :
    Calls Try.prog 54 #[natv D n c, natv E m c'] w fun e w' => ∃ Dr l cr v, e = .returned (.tuple #[natv Dr l cr, .int .i64 (v : Nat)]) ∧ NF w.heap.size w' (x + y) Dr l cr v ∧ Below w.heap.size w w' :=
  (refAdd_any hn hm hnx hmy hx hy).mono fun e w' ⟨h, hb⟩ => by
    obtain ⟨D, l, c, v, h1, h2⟩ := NF.of_res h
    exact ⟨D, l, c, v, h1, h2, hb⟩
set_option maxHeartbeats 4000000 in
theorem radd_no {D0 D1 D2 D3 : Option Addr} {n0 n1 n2 n3 c0 c1 c2 c3 : Nat} {b0 b1 : Bool} {w : World}
    (k0 : ∀ w', Below w.heap.size w w' → Calls Try.prog 21 #[.agg #[.slice D0 n0 c0, .slice D1 n1 c1]] w' fun e w'' => e = .returned (.bool b0) ∧ Below w'.heap.size w' w'')
    (k1 : ∀ w', Below w.heap.size w w' → Calls Try.prog 21 #[.agg #[.slice D2 n2 c2, .slice D3 n3 c3]] w' fun e w'' => e = .returned (.bool b1) ∧ Below w'.heap.size w' w'') (hb : b0 = false ∨ b0 = true ∧ b1 = false) :
    Calls Try.prog 25 #[fv D0 n0 c0 D1 n1 c1, fv D2 n2 c2 D3 n3 c3] w fun e w' => Err e 2 ∧ Below w.heap.size w w' := by
  have HK := Lib.hid k0
  have HK2 := Lib.hid k1
  have BS0 := Lib.hid (boxesF w (.slice D0 n0 c0) (.slice D1 n1 c1) (.slice D2 n2 c2) (.slice D3 n3 c3))
  clear k0 k1
  unfold fv
  rcases hb with rfl | ⟨rfl, rfl⟩
  · go_enter Try.func25, Try.ntmps25
    go_wp2_with fail
    refine (HK.out _ BS0.out.below).mono ?_
    rintro e w1 ⟨rfl, hb1⟩
    have bs := BS0.out.on hb1
    obtain ⟨z, hz⟩ : ∃ z, z = w.heap.size + 1 + 1 := ⟨_, rfl⟩
    rw [← hz] at bs ⊢
    have hzw : w.heap.size ≤ z := by omega
    obtain ⟨_, lz, kz⟩ := bs.get (.head _)
    have HB := Lib.hid bs.below
    have r0 : w1.cell? ⟨z, 0, none⟩ = some (.slice none 0 0) := kz.cell 0
    have r1 : w1.cell? ⟨z, 1, none⟩ = some (.slice none 0 0) := kz.cell 1
    have f0 : w1.frozen? ⟨z, 0, none⟩ = false := kz.frozen 0
    have f1 : w1.frozen? ⟨z, 1, none⟩ = false := kz.frozen 1
    clear bs kz hz hb1
    go_wp2
    refine bodyPost_ret (v := .tuple #[fv none 0 0 none 0 0, .int .i64 2]) (by unfold fv; simp [results, Try.results25, go_sem, r0, r1]) rfl ?_
    refine ⟨rfl, ?_⟩
    repeat' (first | exact HB.out | refine bl_alloc ?_ _ | refine bse ?_ (by assumption) _ _ | refine Below.drew ?_)
  · go_enter Try.func25, Try.ntmps25
    go_wp2_with fail
    refine (HK.out _ BS0.out.below).mono ?_
    rintro e w1 ⟨rfl, hb1⟩
    have BS1 := Lib.hid (BS0.out.on hb1)
    obtain ⟨_, lb, kb⟩ := BS1.out.get (.tail _ (.head _))
    have qa : w1.cell? ⟨w.heap.size + 1, 0, none⟩ = some (.slice D2 n2 c2) := kb.cell 0
    have qb : w1.cell? ⟨w.heap.size + 1, 1, none⟩ = some (.slice D3 n3 c3) := kb.cell 1
    clear hb1 kb BS0
    go_wp2_with fail
    refine (HK2.out _ BS1.out.below).mono ?_
    rintro e w2 ⟨rfl, hb1⟩
    clear qa qb lb
    have bs := BS1.out.on hb1
    obtain ⟨z, hz⟩ : ∃ z, z = w.heap.size + 1 + 1 := ⟨_, rfl⟩
    rw [← hz] at bs ⊢
    have hzw : w.heap.size ≤ z := by omega
    obtain ⟨_, lz, kz⟩ := bs.get (.head _)
    have HB := Lib.hid bs.below
    have r0 : w2.cell? ⟨z, 0, none⟩ = some (.slice none 0 0) := kz.cell 0
    have r1 : w2.cell? ⟨z, 1, none⟩ = some (.slice none 0 0) := kz.cell 1
    have f0 : w2.frozen? ⟨z, 0, none⟩ = false := kz.frozen 0
    have f1 : w2.frozen? ⟨z, 1, none⟩ = false := kz.frozen 1
    clear bs kz hz hb1
    go_wp2
    refine bodyPost_ret (v := .tuple #[fv none 0 0 none 0 0, .int .i64 2]) (by unfold fv; simp [results, Try.results25, go_sem, r0, r1]) rfl ?_
    refine ⟨rfl, ?_⟩
    repeat' (first | exact HB.out | refine bl_alloc ?_ _ | refine bse ?_ (by assumption) _ _ | refine Below.drew ?_)
set_option maxHeartbeats 4000000 in
theorem rsub_no {D0 D1 D2 D3 : Option Addr} {n0 n1 n2 n3 c0 c1 c2 c3 : Nat} {b0 b1 : Bool} {w : World}
    (k0 : ∀ w', Below w.heap.size w w' → Calls Try.prog 21 #[.agg #[.slice D0 n0 c0, .slice D1 n1 c1]] w' fun e w'' => e = .returned (.bool b0) ∧ Below w'.heap.size w' w'')
    (k1 : ∀ w', Below w.heap.size w w' → Calls Try.prog 21 #[.agg #[.slice D2 n2 c2, .slice D3 n3 c3]] w' fun e w'' => e = .returned (.bool b1) ∧ Below w'.heap.size w' w'') (hb : b0 = false ∨ b0 = true ∧ b1 = false) :
    Calls Try.prog 27 #[fv D0 n0 c0 D1 n1 c1, fv D2 n2 c2 D3 n3 c3] w fun e w' => Err e 2 ∧ Below w.heap.size w w' := by
  have HK := Lib.hid k0
  have HK2 := Lib.hid k1
  have BS0 := Lib.hid (boxesF w (.slice D0 n0 c0) (.slice D1 n1 c1) (.slice D2 n2 c2) (.slice D3 n3 c3))
  clear k0 k1
  unfold fv
  rcases hb with rfl | ⟨rfl, rfl⟩
  · go_enter Try.func27, Try.ntmps27
    go_wp2_with fail
    refine (HK.out _ BS0.out.below).mono ?_
    rintro e w1 ⟨rfl, hb1⟩
    have bs := BS0.out.on hb1
    obtain ⟨z, hz⟩ : ∃ z, z = w.heap.size + 1 + 1 := ⟨_, rfl⟩
    rw [← hz] at bs ⊢
    have hzw : w.heap.size ≤ z := by omega
    obtain ⟨_, lz, kz⟩ := bs.get (.head _)
    have HB := Lib.hid bs.below
    have r0 : w1.cell? ⟨z, 0, none⟩ = some (.slice none 0 0) := kz.cell 0
    have r1 : w1.cell? ⟨z, 1, none⟩ = some (.slice none 0 0) := kz.cell 1
    have f0 : w1.frozen? ⟨z, 0, none⟩ = false := kz.frozen 0
    have f1 : w1.frozen? ⟨z, 1, none⟩ = false := kz.frozen 1
    clear bs kz hz hb1
    go_wp2
    refine bodyPost_ret (v := .tuple #[fv none 0 0 none 0 0, .int .i64 2]) (by unfold fv; simp [results, Try.results27, go_sem, r0, r1]) rfl ?_
    refine ⟨rfl, ?_⟩
    repeat' (first | exact HB.out | refine bl_alloc ?_ _ | refine bse ?_ (by assumption) _ _ | refine Below.drew ?_)
  · go_enter Try.func27, Try.ntmps27
    go_wp2_with fail
    refine (HK.out _ BS0.out.below).mono ?_
    rintro e w1 ⟨rfl, hb1⟩
    have BS1 := Lib.hid (BS0.out.on hb1)
    obtain ⟨_, lb, kb⟩ := BS1.out.get (.tail _ (.head _))
    have qa : w1.cell? ⟨w.heap.size + 1, 0, none⟩ = some (.slice D2 n2 c2) := kb.cell 0
    have qb : w1.cell? ⟨w.heap.size + 1, 1, none⟩ = some (.slice D3 n3 c3) := kb.cell 1
    clear hb1 kb BS0
    go_wp2_with fail
    refine (HK2.out _ BS1.out.below).mono ?_
    rintro e w2 ⟨rfl, hb1⟩
    clear qa qb lb
    have bs := BS1.out.on hb1
    obtain ⟨z, hz⟩ : ∃ z, z = w.heap.size + 1 + 1 := ⟨_, rfl⟩
    rw [← hz] at bs ⊢
    have hzw : w.heap.size ≤ z := by omega
    obtain ⟨_, lz, kz⟩ := bs.get (.head _)
    have HB := Lib.hid bs.below
    have r0 : w2.cell? ⟨z, 0, none⟩ = some (.slice none 0 0) := kz.cell 0
    have r1 : w2.cell? ⟨z, 1, none⟩ = some (.slice none 0 0) := kz.cell 1
    have f0 : w2.frozen? ⟨z, 0, none⟩ = false := kz.frozen 0
    have f1 : w2.frozen? ⟨z, 1, none⟩ = false := kz.frozen 1
    clear bs kz hz hb1
    go_wp2
    refine bodyPost_ret (v := .tuple #[fv none 0 0 none 0 0, .int .i64 2]) (by unfold fv; simp [results, Try.results27, go_sem, r0, r1]) rfl ?_
    refine ⟨rfl, ?_⟩
    repeat' (first | exact HB.out | refine bl_alloc ?_ _ | refine bse ?_ (by assumption) _ _ | refine Below.drew ?_)
set_option maxHeartbeats 4000000 in
theorem rmul_no {D0 D1 D2 D3 : Option Addr} {n0 n1 n2 n3 c0 c1 c2 c3 : Nat} {b0 b1 : Bool} {w : World}
    (k0 : ∀ w', Below w.heap.size w w' → Calls Try.prog 21 #[.agg #[.slice D0 n0 c0, .slice D1 n1 c1]] w' fun e w'' => e = .returned (.bool b0) ∧ Below w'.heap.size w' w'')
    (k1 : ∀ w', Below w.heap.size w w' → Calls Try.prog 21 #[.agg #[.slice D2 n2 c2, .slice D3 n3 c3]] w' fun e w'' => e = .returned (.bool b1) ∧ Below w'.heap.size w' w'') (hb : b0 = false ∨ b0 = true ∧ b1 = false) :
    Calls Try.prog 29 #[fv D0 n0 c0 D1 n1 c1, fv D2 n2 c2 D3 n3 c3] w fun e w' => Err e 2 ∧ Below w.heap.size w w' := by
  have HK := Lib.hid k0
  have HK2 := Lib.hid k1
  have BS0 := Lib.hid (boxesF w (.slice D0 n0 c0) (.slice D1 n1 c1) (.slice D2 n2 c2) (.slice D3 n3 c3))
  clear k0 k1
  unfold fv
  rcases hb with rfl | ⟨rfl, rfl⟩
  · go_enter Try.func29, Try.ntmps29
    go_wp2_with fail
    refine (HK.out _ BS0.out.below).mono ?_
    rintro e w1 ⟨rfl, hb1⟩
    have bs := BS0.out.on hb1
    obtain ⟨z, hz⟩ : ∃ z, z = w.heap.size + 1 + 1 := ⟨_, rfl⟩
    rw [← hz] at bs ⊢
    have hzw : w.heap.size ≤ z := by omega
    obtain ⟨_, lz, kz⟩ := bs.get (.head _)
    have HB := Lib.hid bs.below
    have r0 : w1.cell? ⟨z, 0, none⟩ = some (.slice none 0 0) := kz.cell 0
    have r1 : w1.cell? ⟨z, 1, none⟩ = some (.slice none 0 0) := kz.cell 1
    have f0 : w1.frozen? ⟨z, 0, none⟩ = false := kz.frozen 0
    have f1 : w1.frozen? ⟨z, 1, none⟩ = false := kz.frozen 1
    clear bs kz hz hb1
    go_wp2
    refine bodyPost_ret (v := .tuple #[fv none 0 0 none 0 0, .int .i64 2]) (by unfold fv; simp [results, Try.results29, go_sem, r0, r1]) rfl ?_
    refine ⟨rfl, ?_⟩
    repeat' (first | exact HB.out | refine bl_alloc ?_ _ | refine bse ?_ (by assumption) _ _ | refine Below.drew ?_)
  · go_enter Try.func29, Try.ntmps29
    go_wp2_with fail
    refine (HK.out _ BS0.out.below).mono ?_
    rintro e w1 ⟨rfl, hb1⟩
    have BS1 := Lib.hid (BS0.out.on hb1)
    obtain ⟨_, lb, kb⟩ := BS1.out.get (.tail _ (.head _))
    have qa : w1.cell? ⟨w.heap.size + 1, 0, none⟩ = some (.slice D2 n2 c2) := kb.cell 0
    have qb : w1.cell? ⟨w.heap.size + 1, 1, none⟩ = some (.slice D3 n3 c3) := kb.cell 1
    clear hb1 kb BS0
    go_wp2_with fail
    refine (HK2.out _ BS1.out.below).mono ?_
    rintro e w2 ⟨rfl, hb1⟩
    clear qa qb lb
    have bs := BS1.out.on hb1
    obtain ⟨z, hz⟩ : ∃ z, z = w.heap.size + 1 + 1 := ⟨_, rfl⟩
    rw [← hz] at bs ⊢
    have hzw : w.heap.size ≤ z := by omega
    obtain ⟨_, lz, kz⟩ := bs.get (.head _)
    have HB := Lib.hid bs.below
    have r0 : w2.cell? ⟨z, 0, none⟩ = some (.slice none 0 0) := kz.cell 0
    have r1 : w2.cell? ⟨z, 1, none⟩ = some (.slice none 0 0) := kz.cell 1
    have f0 : w2.frozen? ⟨z, 0, none⟩ = false := kz.frozen 0
    have f1 : w2.frozen? ⟨z, 1, none⟩ = false := kz.frozen 1
    clear bs kz hz hb1
    go_wp2
    refine bodyPost_ret (v := .tuple #[fv none 0 0 none 0 0, .int .i64 2]) (by unfold fv; simp [results, Try.results29, go_sem, r0, r1]) rfl ?_
    refine ⟨rfl, ?_⟩
    repeat' (first | exact HB.out | refine bl_alloc ?_ _ | refine bse ?_ (by assumption) _ _ | refine Below.drew ?_)
set_option maxHeartbeats 4000000 in
theorem rdiv_no {D0 D1 D2 D3 : Option Addr} {n0 n1 n2 n3 c0 c1 c2 c3 : Nat} {b0 b1 : Bool} {w : World}
    (k0 : ∀ w', Below w.heap.size w w' → Calls Try.prog 21 #[.agg #[.slice D0 n0 c0, .slice D1 n1 c1]] w' fun e w'' => e = .returned (.bool b0) ∧ Below w'.heap.size w' w'')
    (k1 : ∀ w', Below w.heap.size w w' → Calls Try.prog 21 #[.agg #[.slice D2 n2 c2, .slice D3 n3 c3]] w' fun e w'' => e = .returned (.bool b1) ∧ Below w'.heap.size w' w'') (hb : b0 = false ∨ b0 = true ∧ b1 = false) :
    Calls Try.prog 31 #[fv D0 n0 c0 D1 n1 c1, fv D2 n2 c2 D3 n3 c3] w fun e w' => Err e 2 ∧ Below w.heap.size w w' := by
  have HK := Lib.hid k0
  have HK2 := Lib.hid k1
  have BS0 := Lib.hid (boxesF w (.slice D0 n0 c0) (.slice D1 n1 c1) (.slice D2 n2 c2) (.slice D3 n3 c3))
  clear k0 k1
  unfold fv
  rcases hb with rfl | ⟨rfl, rfl⟩
  · go_enter Try.func31, Try.ntmps31
    go_wp2_with fail
    refine (HK.out _ BS0.out.below).mono ?_
    rintro e w1 ⟨rfl, hb1⟩
    have bs := BS0.out.on hb1
    obtain ⟨z, hz⟩ : ∃ z, z = w.heap.size + 1 + 1 := ⟨_, rfl⟩
    rw [← hz] at bs ⊢
    have hzw : w.heap.size ≤ z := by omega
    obtain ⟨_, lz, kz⟩ := bs.get (.head _)
    have HB := Lib.hid bs.below
    have r0 : w1.cell? ⟨z, 0, none⟩ = some (.slice none 0 0) := kz.cell 0
    have r1 : w1.cell? ⟨z, 1, none⟩ = some (.slice none 0 0) := kz.cell 1
    have f0 : w1.frozen? ⟨z, 0, none⟩ = false := kz.frozen 0
    have f1 : w1.frozen? ⟨z, 1, none⟩ = false := kz.frozen 1
    clear bs kz hz hb1
    go_wp2
    refine bodyPost_ret (v := .tuple #[fv none 0 0 none 0 0, .int .i64 2]) (by unfold fv; simp [results, Try.results31, go_sem, r0, r1]) rfl ?_
    refine ⟨rfl, ?_⟩
    repeat' (first | exact HB.out | refine bl_alloc ?_ _ | refine bse ?_ (by assumption) _ _ | refine Below.drew ?_)
  · go_enter Try.func31, Try.ntmps31
    go_wp2_with fail
    refine (HK.out _ BS0.out.below).mono ?_
    rintro e w1 ⟨rfl, hb1⟩
    have BS1 := Lib.hid (BS0.out.on hb1)
    obtain ⟨_, lb, kb⟩ := BS1.out.get (.tail _ (.head _))
    have qa : w1.cell? ⟨w.heap.size + 1, 0, none⟩ = some (.slice D2 n2 c2) := kb.cell 0
    have qb : w1.cell? ⟨w.heap.size + 1, 1, none⟩ = some (.slice D3 n3 c3) := kb.cell 1
    clear hb1 kb BS0
    go_wp2_with fail
    refine (HK2.out _ BS1.out.below).mono ?_
    rintro e w2 ⟨rfl, hb1⟩
    clear qa qb lb
    have bs := BS1.out.on hb1
    obtain ⟨z, hz⟩ : ∃ z, z = w.heap.size + 1 + 1 := ⟨_, rfl⟩
    rw [← hz] at bs ⊢
    have hzw : w.heap.size ≤ z := by omega
    obtain ⟨_, lz, kz⟩ := bs.get (.head _)
    have HB := Lib.hid bs.below
    have r0 : w2.cell? ⟨z, 0, none⟩ = some (.slice none 0 0) := kz.cell 0
    have r1 : w2.cell? ⟨z, 1, none⟩ = some (.slice none 0 0) := kz.cell 1
    have f0 : w2.frozen? ⟨z, 0, none⟩ = false := kz.frozen 0
    have f1 : w2.frozen? ⟨z, 1, none⟩ = false := kz.frozen 1
    clear bs kz hz hb1
    go_wp2
    refine bodyPost_ret (v := .tuple #[fv none 0 0 none 0 0, .int .i64 2]) (by unfold fv; simp [results, Try.results31, go_sem, r0, r1]) rfl ?_
    refine ⟨rfl, ?_⟩
    repeat' (first | exact HB.out | refine bl_alloc ?_ _ | refine bse ?_ (by assumption) _ _ | refine Below.drew ?_)
set_option maxHeartbeats 4000000 in
set_option maxRecDepth 100000 in
theorem rmul_ok {D0 D1 D2 D3 : Option Addr} {n0 n1 n2 n3 c0 c1 c2 c3 xn xd yn yd : Nat} {w : World} (hn0 : n0 ≤ 64) (hn1 : n1 ≤ 64) (hn2 : n2 ≤ 64) (hn3 : n3 ≤ 64) (h0 : n0 = L32 xn) (h1 : n1 = L32 xd) (h2 : n2 = L32 yn) (h3 : n3 = L32 yd)
    (hx0 : Cells w D0 n0 (Lm (d32 xn))) (hx1 : Cells w D1 n1 (Lm (d32 xd))) (hx2 : Cells w D2 n2 (Lm (d32 yn))) (hx3 : Cells w D3 n3 (Lm (d32 yd))) (hf : fok xn xd = true) (hg : fok yn yd = true) :
    Calls Try.prog 29 #[fv D0 n0 c0 D1 n1 c1, fv D2 n2 c2 D3 n3 c3] w fun e w' => Out w.heap.size w' e (fits_mul xn xd yn yd) (xn * yn / Nat.gcd (xn * yn) (xd * yd)) (xd * yd / Nat.gcd (xn * yn) (xd * yd)) ∧ Below w.heap.size w w' := by
  have HXD := Lib.hid (fok_pos hf)
  have HYD := Lib.hid (fok_pos hg)
  unfold fits_mul
  obtain ⟨p, hp⟩ : ∃ p, p = xn * yn := ⟨_, rfl⟩
  obtain ⟨q, hq⟩ : ∃ q, q = xd * yd := ⟨_, rfl⟩
  have HQ0 : Hid (0 < q) := by rw [hq]; exact Lib.hid (Nat.mul_pos HXD.out HYD.out)
  have HP := Lib.hid hp
  have HQ := Lib.hid hq
  rw [← hp, ← hq]
  clear hp hq
  have H0 := Lib.hid h0
  have H1 := Lib.hid h1
  have H2 := Lib.hid h2
  have H3 := Lib.hid h3
  have HK := fun (w' : World) (h : Below w.heap.size w w') => rfvalid_any (c := c0) (c' := c1) hn0 hn1 H0.out H1.out (hx0.below h) (hx1.below h)
  have HK2 := fun (w' : World) (h : Below w.heap.size w w') => rfvalid_any (c := c2) (c' := c3) hn2 hn3 H2.out H3.out (hx2.below h) (hx3.below h)
  rw [hf] at HK
  rw [hg] at HK2
  have BS0 := Lib.hid (boxesF w (.slice D0 n0 c0) (.slice D1 n1 c1) (.slice D2 n2 c2) (.slice D3 n3 c3))
  clear hf hg h0 h1 h2 h3
  unfold fv at HK HK2 ⊢
  have HKH := Lib.hid HK
  have HKH2 := Lib.hid HK2
  clear HK HK2
  go_enter Try.func29, Try.ntmps29
  go_wp2_with fail
  refine (HKH.out _ BS0.out.below).mono ?_
  rintro e w1 ⟨rfl, hb1⟩
  have BS1 := Lib.hid (BS0.out.on hb1)
  obtain ⟨_, lb, kb⟩ := BS1.out.get (.tail _ (.head _))
  have qa : w1.cell? ⟨w.heap.size + 1, 0, none⟩ = some (.slice D2 n2 c2) := kb.cell 0
  have qb : w1.cell? ⟨w.heap.size + 1, 1, none⟩ = some (.slice D3 n3 c3) := kb.cell 1
  clear hb1 kb BS0
  go_wp2_with fail
  refine (HKH2.out _ BS1.out.below).mono ?_
  rintro e w2 ⟨rfl, hb1⟩
  clear qa qb lb
  obtain ⟨z, hz⟩ : ∃ z, z = w.heap.size + 1 + 1 := ⟨_, rfl⟩
  have bs2 := BS1.out.on hb1
  rw [← hz] at bs2 ⊢
  have hzw : w.heap.size ≤ z := by omega
  have BS2 := Lib.hid bs2
  obtain ⟨_, la2, ka⟩ := BS2.out.get (.tail _ (.tail _ (.head _)))
  obtain ⟨_, lb2, kb⟩ := BS2.out.get (.tail _ (.head _))
  have r0 : w2.cell? ⟨w.heap.size, 0, none⟩ = some (.slice D0 n0 c0) := ka.cell 0
  have r1 : w2.cell? ⟨w.heap.size, 1, none⟩ = some (.slice D1 n1 c1) := ka.cell 1
  have r2 : w2.cell? ⟨w.heap.size + 1, 0, none⟩ = some (.slice D2 n2 c2) := kb.cell 0
  have r3 : w2.cell? ⟨w.heap.size + 1, 1, none⟩ = some (.slice D3 n3 c3) := kb.cell 1
  clear hb1 ka kb bs2 hz BS1
  go_wp2_with fail
  refine (mulN (x := xn) (y := yn) hn0 hn2 H0.out H2.out (hx0.below BS2.out.below) (hx2.below BS2.out.below)).mono ?_
  rintro e w3 ⟨Dp, lp, cp, yp, rfl, hp, hb3⟩
  rw [← HP.out] at hp
  have BS3 := Lib.hid (BS2.out.on hb3)
  have BS4 := Lib.hid (BS3.out.alloc TN #[.slice Dp lp cp])
  have NP := Lib.hid (hp.alloc (.cells #[.slice Dp lp cp] TN))
  clear r0 r1 r2 r3 la2 lb2 hb3 hp
  obtain ⟨_, la2, ka⟩ := BS3.out.get (.tail _ (.tail _ (.head _)))
  obtain ⟨_, lb2, kb⟩ := BS3.out.get (.tail _ (.head _))
  have r1 : w3.cell? ⟨w.heap.size, 1, none⟩ = some (.slice D1 n1 c1) := ka.cell 1
  have r2 : w3.cell? ⟨w.heap.size + 1, 0, none⟩ = some (.slice D2 n2 c2) := kb.cell 0
  have r3 : w3.cell? ⟨w.heap.size + 1, 1, none⟩ = some (.slice D3 n3 c3) := kb.cell 1
  clear ka kb BS2
  unfold natv
  go_wp2_with fail
  refine (mulN (x := xd) (y := yd) hn1 hn3 H1.out H3.out (hx1.below BS4.out.below) (hx3.below BS4.out.below)).mono ?_
  rintro e w4 ⟨Dq, lq, cq, yq, rfl, hq, hb4⟩
  rw [← HQ.out] at hq
  have BS5 := Lib.hid (BS4.out.on hb4)
  replace NP := Lib.hid (NP.out.below hb4)
  clear r1 r2 r3 la2 lb2 hb4 BS3 BS4
  obtain ⟨_, l8, k8⟩ := BS5.out.get (.head _)
  have q8 : w4.cell? ⟨w3.heap.size, 0, none⟩ = some (.slice Dp lp cp) := k8.cell 0
  obtain ⟨_, lz, kz⟩ := BS5.out.get (.tail _ (.head _))
  have s0 : w4.cell? ⟨z, 0, none⟩ = some (.slice none 0 0) := kz.cell 0
  have s1 : w4.cell? ⟨z, 1, none⟩ = some (.slice none 0 0) := kz.cell 1
  have f0 : w4.frozen? ⟨z, 0, none⟩ = false := kz.frozen 0
  have f1 : w4.frozen? ⟨z, 1, none⟩ = false := kz.frozen 1
  have HB7 := Lib.hid BS5.out.below
  clear kz
  clear k8
  unfold natv
  rcases NP.out with ⟨hp64, rfl, hlp, hcp, hfp⟩ | ⟨hp64, rfl, rfl, rfl, rfl⟩
  · rcases hq with ⟨hq64, rfl, hlq, hcq, hfq⟩ | ⟨hq64, rfl, rfl, rfl, rfl⟩
    · rw [← hlp] at hp64
      rw [← hlq] at hq64
      have HLP := Lib.hid hlp
      have HLQ := Lib.hid hlq
      have BS6 := Lib.hid (BS5.out.alloc TN #[.slice Dq lq cq])
      have HCP := Lib.hid (hcp.alloc (.cells #[.slice Dq lq cq] TN))
      have HCQ := Lib.hid (hcq.alloc (.cells #[.slice Dq lq cq] TN))
      clear NP hlp hlq hcp hcq hfp hfq HB7
      go_wp2_with fail
      refine (rreduce_any (x := p) (y := q) hp64 hq64 HLP.out HLQ.out HCP.out HCQ.out HQ0.out).mono ?_
      rintro e w5 ⟨⟨Da, ca, Db, cb, rfl, hla, hlb, hca, hcb, hfa, hfb⟩, hb5⟩
      have HFIT := Lib.hid (show L32 p ≤ 64 ∧ L32 q ≤ 64 by rw [← HLP.out, ← HLQ.out]; exact ⟨hp64, hq64⟩)
      have HZ6 := Lib.hid (BS6.out.get (.tail _ (.tail _ (.head _)))).2.1
      have HW6 := Lib.hid BS6.out.below.size
      have BS7 := Lib.hid (BS6.out.on hb5)
      clear hb5 q8 l8 s0 s1 f0 f1 lz
      obtain ⟨_, lz, kz⟩ := BS7.out.get (.tail _ (.tail _ (.head _)))
      have s0 : w5.cell? ⟨z, 0, none⟩ = some (.slice none 0 0) := kz.cell 0
      have s1 : w5.cell? ⟨z, 1, none⟩ = some (.slice none 0 0) := kz.cell 1
      have f0 : w5.frozen? ⟨z, 0, none⟩ = false := kz.frozen 0
      have f1 : w5.frozen? ⟨z, 1, none⟩ = false := kz.frozen 1
      have HB7 := Lib.hid BS7.out.below
      clear kz
      obtain ⟨l1, hl1⟩ : ∃ l, l = L32 (p / Nat.gcd p q) := ⟨_, rfl⟩
      obtain ⟨l2, hl2⟩ : ∃ l, l = L32 (q / Nat.gcd p q) := ⟨_, rfl⟩
      rw [← hl1] at hla hca ⊢
      rw [← hl2] at hlb hcb ⊢
      have HL1 := Lib.hid hl1
      have HL2 := Lib.hid hl2
      have HCA := Lib.hid hca
      have HCB := Lib.hid hcb
      have HFA := Lib.hid hfa
      have HFB := Lib.hid hfb
      clear hl1 hl2 hca hcb hfa hfb
      unfold fv
      go_wp2
      refine bodyPost_ret (v := .tuple #[fv Da l1 ca Db l2 cb, .int .i64 0]) (by unfold fv; simp [results, Try.results29, go_sem, s0, s1]) rfl ?_
      refine ⟨.inl ⟨HFIT.out, Da, ca, Db, cb, by rw [← HL1.out, ← HL2.out], by rw [← HL1.out]; exact hla, by rw [← HL2.out]; exact hlb, ?_, ?_, HFA.out.mono HW6.out, HFB.out.mono HW6.out⟩, ?_⟩
      · rw [← HL1.out]
        exact (HCA.out.set_ HFA.out HZ6.out _ _).set_ HFA.out HZ6.out _ _
      · rw [← HL2.out]
        exact (HCB.out.set_ HFB.out HZ6.out _ _).set_ HFB.out HZ6.out _ _
      · repeat' (first | exact HB7.out | refine bl_alloc ?_ _ | refine bse ?_ (by assumption) _ _ | refine Below.drew ?_)
    · have HN := Lib.hid (show ¬(L32 p ≤ 64 ∧ L32 q ≤ 64) from fun h => by have := h.2; omega)
      clear NP hlp hcp hfp hp64 hq64
      go_wp2
      refine bodyPost_ret (v := .tuple #[fv none 0 0 none 0 0, .int .i64 9]) (by unfold fv; simp [results, Try.results29, go_sem, s0, s1, lz]) rfl ?_
      refine ⟨.inr ⟨HN.out, rfl⟩, ?_⟩
      repeat' (first | exact HB7.out | refine bl_alloc ?_ _ | refine bse ?_ (by assumption) _ _ | refine Below.drew ?_)
  · have HN := Lib.hid (show ¬(L32 p ≤ 64 ∧ L32 q ≤ 64) from fun h => by have := h.1; omega)
    clear NP hp64
    rcases hq with ⟨hq64, rfl, hlq, hcq, hfq⟩ | ⟨hq64, rfl, rfl, rfl, rfl⟩
    · clear hlq hcq hfq hq64
      go_wp2
      refine bodyPost_ret (v := .tuple #[fv none 0 0 none 0 0, .int .i64 9]) (by unfold fv; simp [results, Try.results29, go_sem, s0, s1, lz]) rfl ?_
      refine ⟨.inr ⟨HN.out, rfl⟩, ?_⟩
      repeat' (first | exact HB7.out | refine bl_alloc ?_ _ | refine bse ?_ (by assumption) _ _ | refine Below.drew ?_)
    · clear hq64
      go_wp2
      refine bodyPost_ret (v := .tuple #[fv none 0 0 none 0 0, .int .i64 9]) (by unfold fv; simp [results, Try.results29, go_sem, s0, s1, lz]) rfl ?_
      refine ⟨.inr ⟨HN.out, rfl⟩, ?_⟩
      repeat' (first | exact HB7.out | refine bl_alloc ?_ _ | refine bse ?_ (by assumption) _ _ | refine Below.drew ?_)
set_option maxHeartbeats 4000000 in
set_option maxRecDepth 100000 in
theorem rdiv_ok {D0 D1 D2 D3 : Option Addr} {n0 n1 n2 n3 c0 c1 c2 c3 xn xd yn yd : Nat} {w : World} (hn0 : n0 ≤ 64) (hn1 : n1 ≤ 64) (hn2 : n2 ≤ 64) (hn3 : n3 ≤ 64) (h0 : n0 = L32 xn) (h1 : n1 = L32 xd) (h2 : n2 = L32 yn) (h3 : n3 = L32 yd)
    (hx0 : Cells w D0 n0 (Lm (d32 xn))) (hx1 : Cells w D1 n1 (Lm (d32 xd))) (hx2 : Cells w D2 n2 (Lm (d32 yn))) (hx3 : Cells w D3 n3 (Lm (d32 yd))) (hf : fok xn xd = true) (hg : fok yn yd = true) (hyn : 0 < yn) :
    Calls Try.prog 31 #[fv D0 n0 c0 D1 n1 c1, fv D2 n2 c2 D3 n3 c3] w fun e w' => Out w.heap.size w' e (fits_div xn xd yn yd) (xn * yd / Nat.gcd (xn * yd) (xd * yn)) (xd * yn / Nat.gcd (xn * yd) (xd * yn)) ∧ Below w.heap.size w w' := by
  have HXD := Lib.hid (fok_pos hf)
  have HYD := Lib.hid (fok_pos hg)
  have HYN := Lib.hid hyn
  have hnz : ((n2 : Int) == 0) = false := by
    have : n2 ≠ 0 := fun e => by have := L32_zero.1 (h2.symm.trans e); omega
    simp; omega
  clear hyn
  unfold fits_div
  obtain ⟨p, hp⟩ : ∃ p, p = xn * yd := ⟨_, rfl⟩
  obtain ⟨q, hq⟩ : ∃ q, q = xd * yn := ⟨_, rfl⟩
  have HQ0 : Hid (0 < q) := by rw [hq]; exact Lib.hid (Nat.mul_pos HXD.out HYN.out)
  have HP := Lib.hid hp
  have HQ := Lib.hid hq
  rw [← hp, ← hq]
  clear hp hq
  have H0 := Lib.hid h0
  have H1 := Lib.hid h1
  have H2 := Lib.hid h2
  have H3 := Lib.hid h3
  have HK := fun (w' : World) (h : Below w.heap.size w w') => rfvalid_any (c := c0) (c' := c1) hn0 hn1 H0.out H1.out (hx0.below h) (hx1.below h)
  have HK2 := fun (w' : World) (h : Below w.heap.size w w') => rfvalid_any (c := c2) (c' := c3) hn2 hn3 H2.out H3.out (hx2.below h) (hx3.below h)
  rw [hf] at HK
  rw [hg] at HK2
  have BS0 := Lib.hid (boxesF w (.slice D0 n0 c0) (.slice D1 n1 c1) (.slice D2 n2 c2) (.slice D3 n3 c3))
  clear hf hg h0 h1 h2 h3
  unfold fv at HK HK2 ⊢
  have HKH := Lib.hid HK
  have HKH2 := Lib.hid HK2
  clear HK HK2
  go_enter Try.func31, Try.ntmps31
  go_wp2_with fail
  refine (HKH.out _ BS0.out.below).mono ?_
  rintro e w1 ⟨rfl, hb1⟩
  have BS1 := Lib.hid (BS0.out.on hb1)
  obtain ⟨_, lb, kb⟩ := BS1.out.get (.tail _ (.head _))
  have qa : w1.cell? ⟨w.heap.size + 1, 0, none⟩ = some (.slice D2 n2 c2) := kb.cell 0
  have qb : w1.cell? ⟨w.heap.size + 1, 1, none⟩ = some (.slice D3 n3 c3) := kb.cell 1
  clear hb1 kb BS0
  go_wp2_with fail
  refine (HKH2.out _ BS1.out.below).mono ?_
  rintro e w2 ⟨rfl, hb1⟩
  clear qa qb lb
  obtain ⟨z, hz⟩ : ∃ z, z = w.heap.size + 1 + 1 := ⟨_, rfl⟩
  have bs2 := BS1.out.on hb1
  rw [← hz] at bs2 ⊢
  have hzw : w.heap.size ≤ z := by omega
  have BS2 := Lib.hid bs2
  obtain ⟨_, la2, ka⟩ := BS2.out.get (.tail _ (.tail _ (.head _)))
  obtain ⟨_, lb2, kb⟩ := BS2.out.get (.tail _ (.head _))
  have r0 : w2.cell? ⟨w.heap.size, 0, none⟩ = some (.slice D0 n0 c0) := ka.cell 0
  have r1 : w2.cell? ⟨w.heap.size, 1, none⟩ = some (.slice D1 n1 c1) := ka.cell 1
  have r2 : w2.cell? ⟨w.heap.size + 1, 0, none⟩ = some (.slice D2 n2 c2) := kb.cell 0
  have r3 : w2.cell? ⟨w.heap.size + 1, 1, none⟩ = some (.slice D3 n3 c3) := kb.cell 1
  clear hb1 ka kb bs2 hz BS1
  go_wp2_with fail
  refine (mulN (x := xn) (y := yd) hn0 hn3 H0.out H3.out (hx0.below BS2.out.below) (hx3.below BS2.out.below)).mono ?_
  rintro e w3 ⟨Dp, lp, cp, yp, rfl, hp, hb3⟩
  rw [← HP.out] at hp
  have BS3 := Lib.hid (BS2.out.on hb3)
  have BS4 := Lib.hid (BS3.out.alloc TN #[.slice Dp lp cp])
  have NP := Lib.hid (hp.alloc (.cells #[.slice Dp lp cp] TN))
  clear r0 r1 r2 r3 la2 lb2 hb3 hp
  obtain ⟨_, la2, ka⟩ := BS3.out.get (.tail _ (.tail _ (.head _)))
  obtain ⟨_, lb2, kb⟩ := BS3.out.get (.tail _ (.head _))
  have r1 : w3.cell? ⟨w.heap.size, 1, none⟩ = some (.slice D1 n1 c1) := ka.cell 1
  have r2 : w3.cell? ⟨w.heap.size + 1, 0, none⟩ = some (.slice D2 n2 c2) := kb.cell 0
  have r3 : w3.cell? ⟨w.heap.size + 1, 1, none⟩ = some (.slice D3 n3 c3) := kb.cell 1
  clear ka kb BS2
  unfold natv
  go_wp2_with fail
  refine (mulN (x := xd) (y := yn) hn1 hn2 H1.out H2.out (hx1.below BS4.out.below) (hx2.below BS4.out.below)).mono ?_
  rintro e w4 ⟨Dq, lq, cq, yq, rfl, hq, hb4⟩
  rw [← HQ.out] at hq
  have BS5 := Lib.hid (BS4.out.on hb4)
  replace NP := Lib.hid (NP.out.below hb4)
  clear r1 r2 r3 la2 lb2 hb4 BS3 BS4
  obtain ⟨_, l8, k8⟩ := BS5.out.get (.head _)
  have q8 : w4.cell? ⟨w3.heap.size, 0, none⟩ = some (.slice Dp lp cp) := k8.cell 0
  obtain ⟨_, lz, kz⟩ := BS5.out.get (.tail _ (.head _))
  have s0 : w4.cell? ⟨z, 0, none⟩ = some (.slice none 0 0) := kz.cell 0
  have s1 : w4.cell? ⟨z, 1, none⟩ = some (.slice none 0 0) := kz.cell 1
  have f0 : w4.frozen? ⟨z, 0, none⟩ = false := kz.frozen 0
  have f1 : w4.frozen? ⟨z, 1, none⟩ = false := kz.frozen 1
  have HB7 := Lib.hid BS5.out.below
  clear kz
  clear k8
  unfold natv
  rcases NP.out with ⟨hp64, rfl, hlp, hcp, hfp⟩ | ⟨hp64, rfl, rfl, rfl, rfl⟩
  · rcases hq with ⟨hq64, rfl, hlq, hcq, hfq⟩ | ⟨hq64, rfl, rfl, rfl, rfl⟩
    · rw [← hlp] at hp64
      rw [← hlq] at hq64
      have HLP := Lib.hid hlp
      have HLQ := Lib.hid hlq
      have BS6 := Lib.hid (BS5.out.alloc TN #[.slice Dq lq cq])
      have HCP := Lib.hid (hcp.alloc (.cells #[.slice Dq lq cq] TN))
      have HCQ := Lib.hid (hcq.alloc (.cells #[.slice Dq lq cq] TN))
      clear NP hlp hlq hcp hcq hfp hfq HB7
      go_wp2_with fail
      refine (rreduce_any (x := p) (y := q) hp64 hq64 HLP.out HLQ.out HCP.out HCQ.out HQ0.out).mono ?_
      rintro e w5 ⟨⟨Da, ca, Db, cb, rfl, hla, hlb, hca, hcb, hfa, hfb⟩, hb5⟩
      have HFIT := Lib.hid (show L32 p ≤ 64 ∧ L32 q ≤ 64 by rw [← HLP.out, ← HLQ.out]; exact ⟨hp64, hq64⟩)
      have HZ6 := Lib.hid (BS6.out.get (.tail _ (.tail _ (.head _)))).2.1
      have HW6 := Lib.hid BS6.out.below.size
      have BS7 := Lib.hid (BS6.out.on hb5)
      clear hb5 q8 l8 s0 s1 f0 f1 lz
      obtain ⟨_, lz, kz⟩ := BS7.out.get (.tail _ (.tail _ (.head _)))
      have s0 : w5.cell? ⟨z, 0, none⟩ = some (.slice none 0 0) := kz.cell 0
      have s1 : w5.cell? ⟨z, 1, none⟩ = some (.slice none 0 0) := kz.cell 1
      have f0 : w5.frozen? ⟨z, 0, none⟩ = false := kz.frozen 0
      have f1 : w5.frozen? ⟨z, 1, none⟩ = false := kz.frozen 1
      have HB7 := Lib.hid BS7.out.below
      clear kz
      obtain ⟨l1, hl1⟩ : ∃ l, l = L32 (p / Nat.gcd p q) := ⟨_, rfl⟩
      obtain ⟨l2, hl2⟩ : ∃ l, l = L32 (q / Nat.gcd p q) := ⟨_, rfl⟩
      rw [← hl1] at hla hca ⊢
      rw [← hl2] at hlb hcb ⊢
      have HL1 := Lib.hid hl1
      have HL2 := Lib.hid hl2
      have HCA := Lib.hid hca
      have HCB := Lib.hid hcb
      have HFA := Lib.hid hfa
      have HFB := Lib.hid hfb
      clear hl1 hl2 hca hcb hfa hfb
      unfold fv
      go_wp2
      refine bodyPost_ret (v := .tuple #[fv Da l1 ca Db l2 cb, .int .i64 0]) (by unfold fv; simp [results, Try.results31, go_sem, s0, s1]) rfl ?_
      refine ⟨.inl ⟨HFIT.out, Da, ca, Db, cb, by rw [← HL1.out, ← HL2.out], by rw [← HL1.out]; exact hla, by rw [← HL2.out]; exact hlb, ?_, ?_, HFA.out.mono HW6.out, HFB.out.mono HW6.out⟩, ?_⟩
      · rw [← HL1.out]
        exact (HCA.out.set_ HFA.out HZ6.out _ _).set_ HFA.out HZ6.out _ _
      · rw [← HL2.out]
        exact (HCB.out.set_ HFB.out HZ6.out _ _).set_ HFB.out HZ6.out _ _
      · repeat' (first | exact HB7.out | refine bl_alloc ?_ _ | refine bse ?_ (by assumption) _ _ | refine Below.drew ?_)
    · have HN := Lib.hid (show ¬(L32 p ≤ 64 ∧ L32 q ≤ 64) from fun h => by have := h.2; omega)
      clear NP hlp hcp hfp hp64 hq64
      go_wp2
      refine bodyPost_ret (v := .tuple #[fv none 0 0 none 0 0, .int .i64 9]) (by unfold fv; simp [results, Try.results31, go_sem, s0, s1, lz]) rfl ?_
      refine ⟨.inr ⟨HN.out, rfl⟩, ?_⟩
      repeat' (first | exact HB7.out | refine bl_alloc ?_ _ | refine bse ?_ (by assumption) _ _ | refine Below.drew ?_)
  · have HN := Lib.hid (show ¬(L32 p ≤ 64 ∧ L32 q ≤ 64) from fun h => by have := h.1; omega)
    clear NP hp64
    rcases hq with ⟨hq64, rfl, hlq, hcq, hfq⟩ | ⟨hq64, rfl, rfl, rfl, rfl⟩
    · clear hlq hcq hfq hq64
      go_wp2
      refine bodyPost_ret (v := .tuple #[fv none 0 0 none 0 0, .int .i64 9]) (by unfold fv; simp [results, Try.results31, go_sem, s0, s1, lz]) rfl ?_
      refine ⟨.inr ⟨HN.out, rfl⟩, ?_⟩
      repeat' (first | exact HB7.out | refine bl_alloc ?_ _ | refine bse ?_ (by assumption) _ _ | refine Below.drew ?_)
    · clear hq64
      go_wp2
      refine bodyPost_ret (v := .tuple #[fv none 0 0 none 0 0, .int .i64 9]) (by unfold fv; simp [results, Try.results31, go_sem, s0, s1, lz]) rfl ?_
      refine ⟨.inr ⟨HN.out, rfl⟩, ?_⟩
      repeat' (first | exact HB7.out | refine bl_alloc ?_ _ | refine bse ?_ (by assumption) _ _ | refine Below.drew ?_)
set_option maxHeartbeats 4000000 in
set_option maxRecDepth 100000 in
theorem rdiv_zero {D0 D1 D2 D3 : Option Addr} {n0 n1 n2 n3 c0 c1 c2 c3 xn xd yn yd : Nat} {w : World} (hn0 : n0 ≤ 64) (hn1 : n1 ≤ 64) (hn2 : n2 ≤ 64) (hn3 : n3 ≤ 64) (h0 : n0 = L32 xn) (h1 : n1 = L32 xd) (h2 : n2 = L32 yn) (h3 : n3 = L32 yd)
    (hx0 : Cells w D0 n0 (Lm (d32 xn))) (hx1 : Cells w D1 n1 (Lm (d32 xd))) (hx2 : Cells w D2 n2 (Lm (d32 yn))) (hx3 : Cells w D3 n3 (Lm (d32 yd))) (hf : fok xn xd = true) (hg : fok yn yd = true) (hyn : yn = 0) :
    Calls Try.prog 31 #[fv D0 n0 c0 D1 n1 c1, fv D2 n2 c2 D3 n3 c3] w fun e w' => Err e 10 ∧ Below w.heap.size w w' := by
  have hnz : n2 = 0 := by rw [h2, hyn]; exact L32_zero.2 rfl
  clear hyn
  have H0 := Lib.hid h0
  have H1 := Lib.hid h1
  have H2 := Lib.hid h2
  have H3 := Lib.hid h3
  have HK := fun (w' : World) (h : Below w.heap.size w w') => rfvalid_any (c := c0) (c' := c1) hn0 hn1 H0.out H1.out (hx0.below h) (hx1.below h)
  have HK2 := fun (w' : World) (h : Below w.heap.size w w') => rfvalid_any (c := c2) (c' := c3) hn2 hn3 H2.out H3.out (hx2.below h) (hx3.below h)
  rw [hf] at HK
  rw [hg] at HK2
  have BS0 := Lib.hid (boxesF w (.slice D0 n0 c0) (.slice D1 n1 c1) (.slice D2 0 c2) (.slice D3 n3 c3))
  subst hnz
  clear hf hg h0 h1 h2 h3
  unfold fv at HK HK2 ⊢
  have HKH := Lib.hid HK
  have HKH2 := Lib.hid HK2
  clear HK HK2
  go_enter Try.func31, Try.ntmps31
  go_wp2_with fail
  refine (HKH.out _ BS0.out.below).mono ?_
  rintro e w1 ⟨rfl, hb1⟩
  have BS1 := Lib.hid (BS0.out.on hb1)
  obtain ⟨_, lb, kb⟩ := BS1.out.get (.tail _ (.head _))
  have qa : w1.cell? ⟨w.heap.size + 1, 0, none⟩ = some (.slice D2 0 c2) := kb.cell 0
  have qb : w1.cell? ⟨w.heap.size + 1, 1, none⟩ = some (.slice D3 n3 c3) := kb.cell 1
  clear hb1 kb BS0
  go_wp2_with fail
  refine (HKH2.out _ BS1.out.below).mono ?_
  rintro e w2 ⟨rfl, hb1⟩
  clear qa qb lb
  obtain ⟨z, hz⟩ : ∃ z, z = w.heap.size + 1 + 1 := ⟨_, rfl⟩
  have bs2 := BS1.out.on hb1
  rw [← hz] at bs2 ⊢
  have hzw : w.heap.size ≤ z := by omega
  have BS2 := Lib.hid bs2
  obtain ⟨_, la2, ka⟩ := BS2.out.get (.tail _ (.tail _ (.head _)))
  obtain ⟨_, lb2, kb⟩ := BS2.out.get (.tail _ (.head _))
  have r0 : w2.cell? ⟨w.heap.size, 0, none⟩ = some (.slice D0 n0 c0) := ka.cell 0
  have r1 : w2.cell? ⟨w.heap.size, 1, none⟩ = some (.slice D1 n1 c1) := ka.cell 1
  have r2 : w2.cell? ⟨w.heap.size + 1, 0, none⟩ = some (.slice D2 0 c2) := kb.cell 0
  have r3 : w2.cell? ⟨w.heap.size + 1, 1, none⟩ = some (.slice D3 n3 c3) := kb.cell 1
  clear hb1 ka kb bs2 hz BS1
  obtain ⟨_, lz, kz⟩ := BS2.out.get (.head _)
  have s0 : w2.cell? ⟨z, 0, none⟩ = some (.slice none 0 0) := kz.cell 0
  have s1 : w2.cell? ⟨z, 1, none⟩ = some (.slice none 0 0) := kz.cell 1
  have f0 : w2.frozen? ⟨z, 0, none⟩ = false := kz.frozen 0
  have f1 : w2.frozen? ⟨z, 1, none⟩ = false := kz.frozen 1
  have HB7 := Lib.hid BS2.out.below
  clear kz
  go_wp2
  refine bodyPost_ret (v := .tuple #[fv none 0 0 none 0 0, .int .i64 10]) (by unfold fv; simp [results, Try.results31, go_sem, s0, s1]) rfl ?_
  refine ⟨rfl, ?_⟩
  repeat' (first | exact HB7.out | refine bl_alloc ?_ _ | refine bse ?_ (by assumption) _ _ | refine Below.drew ?_)
end Fr
end Go.Proofs.Yteclghokkdkolaa
