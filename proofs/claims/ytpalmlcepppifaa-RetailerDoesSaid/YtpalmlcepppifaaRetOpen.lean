/- The walks of the retailer's account: New, Open, Settle. -/
import Derived.Test.YtpalmlcepppifaaRetWalks
set_option linter.unusedVariables false
namespace Go.Proofs.Ytpalmlcepppifaa
open Go.RowKit

theorem only_on {w w1 w2 : World} {r : Option Nat} (h : w.grownBy w1 r) (k : Below w1.heap.size w1 w2) : w.grownBy w2 r :=
  ⟨k.os.trans h.os, k.tape.trans h.tape, k.output.trans h.output, Nat.le_trans h.size k.size, fun i hi hne => (k.block i (Nat.lt_of_lt_of_le hi h.size)).trans (h.block i hi hne)⟩
theorem only_trans {w w1 w2 : World} {r : Option Nat} (h : w.grownBy w1 r) (k : w1.grownBy w2 r) : w.grownBy w2 r :=
  ⟨k.os.trans h.os, k.tape.trans h.tape, k.output.trans h.output, Nat.le_trans h.size k.size, fun i hi hne => (k.block i (Nat.lt_of_lt_of_le hi h.size) hne).trans (h.block i hi hne)⟩

/-- A settlement's cells. -/
def setC (t : Rt.Tm) (x : Rt.St) : Array Value := #[.int .i64 x.s, .int .i64 x.r, .int .i64 x.c, .int .i64 (Rt.com t x), .int .i64 (Rt.due t x)]
def zeroC : Array Value := #[.int .i64 0, .int .i64 0, .int .i64 0, .int .i64 0, .int .i64 0]

theorem set_at {w1 : World} {b : Nat} {t : TypeId} {a0 a1 a2 a3 a4 : Value} (h : Blk w1 b t #[a0, a1, a2, a3, a4]) :
    w1.cell? ⟨b, 0, none⟩ = some a0 ∧ w1.cell? ⟨b, 1, none⟩ = some a1 ∧ w1.cell? ⟨b, 2, none⟩ = some a2 ∧ w1.cell? ⟨b, 3, none⟩ = some a3 ∧ w1.cell? ⟨b, 4, none⟩ = some a4 ∧
    w1.frozen? ⟨b, 0, none⟩ = false ∧ w1.frozen? ⟨b, 1, none⟩ = false ∧ w1.frozen? ⟨b, 2, none⟩ = false ∧ w1.frozen? ⟨b, 3, none⟩ = false ∧ w1.frozen? ⟨b, 4, none⟩ = false :=
  ⟨h.cell 0, h.cell 1, h.cell 2, h.cell 3, h.cell 4, h.frozen 0, h.frozen 1, h.frozen 2, h.frozen 3, h.frozen 4⟩

/-- In the midst of Open: the account, the result's block, and all older memory. -/
structure Opn (w W : World) (b g : Nat) (t : Rt.Tm) (x : Rt.St) : Prop where
  obj : Obj W g t x
  res : Blk W b 44 #[.int .i64 0, .int .i64 0, .int .i64 0, .int .i64 0, .int .i64 0]
  below : Below w.heap.size w W
theorem Opn.drewN {w W : World} {b g : Nat} {t : Rt.Tm} {x : Rt.St} (h : Opn w W b g t x) (n : Nat) : Opn w (W.drewN n) b g t x := ⟨h.obj.drewN n, h.res.drewN n, below_drewN h.below n⟩
theorem Opn.drew {w W : World} {b g : Nat} {t : Rt.Tm} {x : Rt.St} (h : Opn w W b g t x) : Opn w W.drew b g t x := ⟨h.obj.drewN 1, h.res.drewN 1, below_drewN h.below 1⟩
theorem Opn.at_ {w W : World} {b g : Nat} {t : Rt.Tm} {x : Rt.St} (h : Opn w W b g t x) :
    W.cell? ⟨g, 0, none⟩ = some (.int .i64 x.s) ∧ W.cell? ⟨g, 1, none⟩ = some (.int .i64 x.r) ∧ W.cell? ⟨g, 2, none⟩ = some (.int .i64 x.c) ∧
    W.cell? ⟨g, 3, none⟩ = some (.int .i64 t.sale) ∧ W.cell? ⟨g, 4, none⟩ = some (.int .i64 t.cash) ∧ W.cell? ⟨g, 5, none⟩ = some (.int .i64 t.bonus) ∧
    W.cell? ⟨g, 6, none⟩ = some (.int .i64 t.above) ∧ W.cell? ⟨g, 7, none⟩ = some (.int .i64 t.credit) := by
  obtain ⟨q0, q1, q2, q3, q4, q5, q6, q7, _⟩ := h.obj.at_
  exact ⟨q0, q1, q2, q3, q4, q5, q6, q7⟩

theorem positive_at {s r p : Int} {w : World} {g : Nat} (hc0 : w.cell? ⟨g, 0, none⟩ = some (.int .i64 s)) (hc1 : w.cell? ⟨g, 1, none⟩ = some (.int .i64 r)) (h0 : 0 ≤ s) (h1 : s ≤ 1000000000000) (h2 : 0 ≤ r) (h3 : r ≤ 1000000000000) (hp : (if s - r < 0 then 0 else s - r) = p) :
    Calls Try.prog 47 #[.pointer (some ⟨g, 0, none⟩)] w fun e w' => e = .returned (.int .i64 p) ∧ ∃ n, w' = w.drewN n := by
  by_cases hn : s - r < 0
  · rw [if_pos hn] at hp
    subst hp
    go_enter Try.func47, Try.ntmps47
    go_wp2_with fail
    refine (net_any hc0 hc1 h0 h1 h2 h3).mono ?_
    rintro e w1 ⟨rfl, n, rfl⟩
    go_wp2
    go_ret
    exact ⟨rfl, _, rfl⟩
  · rw [if_neg hn] at hp
    subst hp
    have hn2 : 0 ≤ s - r := by omega
    go_enter Try.func47, Try.ntmps47
    go_wp2_with fail
    refine (net_any hc0 hc1 h0 h1 h2 h3).mono ?_
    rintro e w1 ⟨rfl, n, rfl⟩
    go_wp2
    go_ret
    exact ⟨rfl, _, rfl⟩
theorem rpart_at {m b y : Int} {w : World} (h0 : 0 ≤ m) (h1 : m ≤ 1000000000000) (h2 : 0 ≤ b) (h3 : b ≤ 10000) (hy : m * b / 10000 = y) :
    Calls Try.prog 48 #[.int .i64 m, .int .i64 b] w fun e w' => e = .returned (.int .i64 y) ∧ w = w' := by
  subst hy
  go_enter Try.func48, Try.ntmps48
  go_wp2_with fail
  refine (part_ok _ _ _ h0 h1 h2 h3).mono ?_
  rintro e w1 ⟨rfl, rfl⟩
  go_wp2
  go_ret
  exact ⟨rfl, rfl⟩

set_option maxHeartbeats 2000000 in
set_option maxRecDepth 100000 in
theorem open_any {w : World} {g : Nat} {t : Rt.Tm} {x : Rt.St} (h : Obj w g t x) (ht : Rt.okT t) (hx : Rt.okS x) :
    Calls Try.prog 26 #[.pointer (some ⟨g, 0, none⟩)] w fun e w' => e = .returned (.agg (setC t x)) ∧ Below w.heap.size w w' := by
  have hpb := Rt.pos_bd hx
  have hob := Rt.over_bd ht hx
  obtain ⟨⟨s0, s1⟩, ⟨r0, r1⟩, ⟨c0, c1⟩⟩ := hx
  obtain ⟨⟨l0, l1⟩, ⟨m0, m1⟩, ⟨n0, n1⟩, ⟨v0, v1⟩, ⟨k0, k1⟩⟩ := ht
  obtain ⟨p, hp⟩ : ∃ p, Rt.pos x = p := ⟨_, rfl⟩
  obtain ⟨o, ho⟩ : ∃ o, Rt.over t x = o := ⟨_, rfl⟩
  rw [hp] at hpb
  rw [ho] at hob
  obtain ⟨p0, p1⟩ := hpb
  obtain ⟨o0, o1⟩ := hob
  obtain ⟨y1, hy1⟩ : ∃ y, p * t.sale / 10000 = y := ⟨_, rfl⟩
  obtain ⟨y2, hy2⟩ : ∃ y, x.c * t.cash / 10000 = y := ⟨_, rfl⟩
  obtain ⟨y3, hy3⟩ : ∃ y, o * t.bonus / 10000 = y := ⟨_, rfl⟩
  have hb1 := Rt.part_bd p0 p1 l0 l1
  have hb2 := Rt.part_bd c0 c1 m0 m1
  have hb3 := Rt.part_bd o0 o1 n0 n1
  rw [hy1] at hb1
  rw [hy2] at hb2
  rw [hy3] at hb3
  obtain ⟨y10, y11⟩ := hb1
  obtain ⟨y20, y21⟩ := hb2
  obtain ⟨y30, y31⟩ := hb3
  have hcom : Rt.com t x = y1 + y2 + y3 := by unfold Rt.com; rw [hp, ho, hy1, hy2, hy3]
  have hset : setC t x = #[.int .i64 x.s, .int .i64 x.r, .int .i64 x.c, .int .i64 (y1 + y2 + y3), .int .i64 (x.s - x.r - x.c - (y1 + y2 + y3))] := by
    unfold setC Rt.due; rw [hcom]
  rw [hset]
  have hp' : (if x.s - x.r < 0 then 0 else x.s - x.r) = p := by unfold Rt.pos at hp; exact hp
  have ho' : (if p - t.above < 0 then 0 else p - t.above) = o := by unfold Rt.over at ho; rw [hp] at ho; exact ho
  have HP := Lib.hid hp'
  have HY1 := Lib.hid hy1
  have HY2 := Lib.hid hy2
  have HY3 := Lib.hid hy3
  have HX := Lib.hid h
  clear h hp ho hy1 hy2 hy3 hcom hset hp'
  obtain ⟨W, hW⟩ : ∃ W, W = w.alloc (.cells #[.int .i64 0, .int .i64 0, .int .i64 0, .int .i64 0, .int .i64 0] 44) := ⟨_, rfl⟩
  have HO : Opn w W w.heap.size g t x := by
    rw [hW]
    exact ⟨HX.out.alloc _, Blk.new w _ _, (Below.refl _ _).alloc (Nat.le_refl _) _⟩
  obtain ⟨q0, q1, q2, q3, q4, q5, q6, q7⟩ := HO.at_
  have HW := Lib.hid hW
  have hp2 : p ≤ 1000000000000 := p1
  clear hW HX
  by_cases hov : p - t.above < 0
  · rw [if_pos hov] at ho'
    subst ho'
    go_enter Try.func26, Try.ntmps26
    go_wp2_with fail
    rw [← HW.out]
    clear HW
    go_quiet ((go_at_call 47; exact Calls.quiet_of (positive_at q0 q1 s0 s1 r0 r1 HP.out)))
    go_wp2_with fail
    replace HO := HO.drewN nq
    clear q0 q1 q2 q3 q4 q5 q6 q7
    generalize W.drewN nq = W2 at HO ⊢
    obtain ⟨q0, q1, q2, q3, q4, q5, q6, q7⟩ := HO.at_
    go_quiet ((first
      | (go_at_call 47; exact Calls.quiet_of (positive_at q0 q1 s0 s1 r0 r1 HP.out))
      | (go_at_call 48; with_reducible exact quiet_left (rpart_at p0 p1 l0 l1 HY1.out))
      | (go_at_call 48; with_reducible exact quiet_left (rpart_at c0 c1 m0 m1 HY2.out))
      | (go_at_call 48; with_reducible exact quiet_left (rpart_at o0 o1 n0 n1 HY3.out))))
    go_wp2_with fail
    replace HO := HO.drewN nq
    clear q0 q1 q2 q3 q4 q5 q6 q7
    generalize W2.drewN nq = W3 at HO ⊢
    obtain ⟨q0, q1, q2, q3, q4, q5, q6, q7⟩ := HO.at_
    go_still_tail 36, (by kernel_rfl)
    change wpList _ _ _ _ _ W3.drew
    replace HO := HO.drew
    clear q0 q1 q2 q3 q4 q5 q6 q7
    generalize W3.drew = W4 at HO ⊢
    obtain ⟨j0, j1, j2, j3, j4, i0, i1, i2, i3, i4⟩ := set_at HO.res
    go_wp2
    refine bodyPost_ret (v := .agg #[.int .i64 x.s, .int .i64 x.r, .int .i64 x.c, .int .i64 (y1 + y2 + y3), .int .i64 (x.s - x.r - x.c - (y1 + y2 + y3))]) (by simp [results, Try.results26, go_sem, j0, j1, j2, j3, j4]) rfl ⟨rfl, ?_⟩
    exact ((((HO.below.setCell (p := ⟨w.heap.size, 0, none⟩) (Nat.le_refl _) _).setCell (p := ⟨w.heap.size, 1, none⟩) (Nat.le_refl _) _).setCell (p := ⟨w.heap.size, 2, none⟩) (Nat.le_refl _) _).setCell (p := ⟨w.heap.size, 3, none⟩) (Nat.le_refl _) _).setCell (p := ⟨w.heap.size, 4, none⟩) (Nat.le_refl _) _
  · rw [if_neg hov] at ho'
    subst ho'
    have hov2 : 0 ≤ p - t.above := by omega
    go_enter Try.func26, Try.ntmps26
    go_wp2_with fail
    rw [← HW.out]
    clear HW
    go_quiet ((go_at_call 47; exact Calls.quiet_of (positive_at q0 q1 s0 s1 r0 r1 HP.out)))
    go_wp2_with fail
    replace HO := HO.drewN nq
    clear q0 q1 q2 q3 q4 q5 q6 q7
    generalize W.drewN nq = W2 at HO ⊢
    obtain ⟨q0, q1, q2, q3, q4, q5, q6, q7⟩ := HO.at_
    go_quiet ((first
      | (go_at_call 47; exact Calls.quiet_of (positive_at q0 q1 s0 s1 r0 r1 HP.out))
      | (go_at_call 48; with_reducible exact quiet_left (rpart_at p0 p1 l0 l1 HY1.out))
      | (go_at_call 48; with_reducible exact quiet_left (rpart_at c0 c1 m0 m1 HY2.out))
      | (go_at_call 48; with_reducible exact quiet_left (rpart_at o0 o1 n0 n1 HY3.out))))
    go_wp2_with fail
    replace HO := HO.drewN nq
    clear q0 q1 q2 q3 q4 q5 q6 q7
    generalize W2.drewN nq = W3 at HO ⊢
    obtain ⟨q0, q1, q2, q3, q4, q5, q6, q7⟩ := HO.at_
    go_still_tail 36, (by kernel_rfl)
    change wpList _ _ _ _ _ W3.drew
    replace HO := HO.drew
    clear q0 q1 q2 q3 q4 q5 q6 q7
    generalize W3.drew = W4 at HO ⊢
    obtain ⟨j0, j1, j2, j3, j4, i0, i1, i2, i3, i4⟩ := set_at HO.res
    go_wp2
    refine bodyPost_ret (v := .agg #[.int .i64 x.s, .int .i64 x.r, .int .i64 x.c, .int .i64 (y1 + y2 + y3), .int .i64 (x.s - x.r - x.c - (y1 + y2 + y3))]) (by simp [results, Try.results26, go_sem, j0, j1, j2, j3, j4]) rfl ⟨rfl, ?_⟩
    exact ((((HO.below.setCell (p := ⟨w.heap.size, 0, none⟩) (Nat.le_refl _) _).setCell (p := ⟨w.heap.size, 1, none⟩) (Nat.le_refl _) _).setCell (p := ⟨w.heap.size, 2, none⟩) (Nat.le_refl _) _).setCell (p := ⟨w.heap.size, 3, none⟩) (Nat.le_refl _) _).setCell (p := ⟨w.heap.size, 4, none⟩) (Nat.le_refl _) _
end Go.Proofs.Ytpalmlcepppifaa
