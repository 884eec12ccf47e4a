/- The walks of the reference's account: Account, Open, Settle. -/
import Derived.Test.YtpalmlcepppifaaRetRef2
import Derived.StillTailTactics
set_option linter.unusedVariables false
namespace Go.Proofs.Ytpalmlcepppifaa
open Go.RowKit

theorem acc_at {w1 : World} {b : Nat} {t : Rt.Tm} {w : World} (h : Acc w w1 b t) :
    w1.cell? ⟨b, 0, none⟩ = some (.int .i64 t.sale) ∧ w1.cell? ⟨b, 1, none⟩ = some (.int .i64 t.cash) ∧ w1.cell? ⟨b, 2, none⟩ = some (.int .i64 t.bonus) ∧ w1.cell? ⟨b, 3, none⟩ = some (.int .i64 t.above) :=
  ⟨h.box.cell 0, h.box.cell 1, h.box.cell 2, h.box.cell 3⟩
theorem five_below {w W : World} {b : Nat} (h : Below w.heap.size w W) (hb : w.heap.size ≤ b) (u0 u1 u2 u3 u4 : Value) :
    Below w.heap.size w (((((W.setCell ⟨b, 0, none⟩ u0).setCell ⟨b, 1, none⟩ u1).setCell ⟨b, 2, none⟩ u2).setCell ⟨b, 3, none⟩ u3).setCell ⟨b, 4, none⟩ u4) :=
  ((((h.setCell (p := ⟨b, 0, none⟩) hb _).setCell (p := ⟨b, 1, none⟩) hb _).setCell (p := ⟨b, 2, none⟩) hb _).setCell (p := ⟨b, 3, none⟩) hb _).setCell (p := ⟨b, 4, none⟩) hb _

set_option maxHeartbeats 2000000 in
set_option maxRecDepth 100000 in
theorem account_any {w : World} {t : Rt.Tm} {x : Rt.St} (ht : Rt.okT t) (hx : Rt.okS x) :
    Calls Try.prog 53 #[.agg #[.int .i64 t.sale, .int .i64 t.cash, .int .i64 t.bonus, .int .i64 t.above, .int .i64 t.credit], .int .i64 x.s, .int .i64 x.r, .int .i64 x.c] w fun e w' => e = .returned (.agg (setC t x)) ∧ Below w.heap.size w w' := by
  have hpb := Rt.pos_bd hx
  have hob := Rt.over_bd ht hx
  obtain ⟨⟨s0, s1⟩, ⟨r0, r1⟩, ⟨c0, c1⟩⟩ := hx
  obtain ⟨⟨l0, l1⟩, ⟨m0, m1⟩, ⟨n0, n1⟩, ⟨v0, v1⟩, ⟨k0, k1⟩⟩ := ht
  obtain ⟨p, hp⟩ : ∃ p, Rt.pos x = p := ⟨_, rfl⟩
  obtain ⟨o, ho⟩ : ∃ o, Rt.over t x = o := ⟨_, rfl⟩
  rw [hp] at hpb
  rw [ho] at hob
  obtain ⟨p0, p1⟩ := hpb
  obtain ⟨o0, o1⟩ := hob
  obtain ⟨y1, hy1⟩ : ∃ y, p * t.sale / 10000 = y := ⟨_, rfl⟩
  obtain ⟨y2, hy2⟩ : ∃ y, x.c * t.cash / 10000 = y := ⟨_, rfl⟩
  obtain ⟨y3, hy3⟩ : ∃ y, o * t.bonus / 10000 = y := ⟨_, rfl⟩
  have hb1 := Rt.part_bd p0 p1 l0 l1
  have hb2 := Rt.part_bd c0 c1 m0 m1
  have hb3 := Rt.part_bd o0 o1 n0 n1
  rw [hy1] at hb1
  rw [hy2] at hb2
  rw [hy3] at hb3
  obtain ⟨y10, y11⟩ := hb1
  obtain ⟨y20, y21⟩ := hb2
  obtain ⟨y30, y31⟩ := hb3
  have hcom : Rt.com t x = y1 + y2 + y3 := by unfold Rt.com; rw [hp, ho, hy1, hy2, hy3]
  have hset : setC t x = #[.int .i64 x.s, .int .i64 x.r, .int .i64 x.c, .int .i64 (y1 + y2 + y3), .int .i64 (x.s - x.r - x.c - (y1 + y2 + y3))] := by
    unfold setC Rt.due; rw [hcom]
  rw [hset]
  have hp' : (if x.s - x.r < 0 then 0 else x.s - x.r) = p := by unfold Rt.pos at hp; exact hp
  have ho' : (if p - t.above < 0 then 0 else p - t.above) = o := by unfold Rt.over at ho; rw [hp] at ho; exact ho
  have HY1 := Lib.hid hy1
  have HY2 := Lib.hid hy2
  have HY3 := Lib.hid hy3
  clear hp ho hy1 hy2 hy3 hcom hset
  obtain ⟨W, hW⟩ : ∃ W, W = (w.alloc (.cells #[.int .i64 t.sale, .int .i64 t.cash, .int .i64 t.bonus, .int .i64 t.above, .int .i64 t.credit] 36)).alloc (.cells #[.int .i64 0, .int .i64 0, .int .i64 0, .int .i64 0, .int .i64 0] 44) := ⟨_, rfl⟩
  have hA : Acc w W w.heap.size t := by
    rw [hW]
    exact ⟨(Blk.new w 36 (termsC t)).alloc _, Blk.new_ (by simp), ((Below.refl _ _).alloc (Nat.le_refl _) _).alloc (by simp) _, Nat.le_refl _⟩
  obtain ⟨q0, q1, q2, q3⟩ := acc_at hA
  have HW := Lib.hid hW
  have HA := Lib.hid hA
  clear hW hA
  by_cases hsr : 0 < x.s - x.r
  · rw [if_neg (by omega)] at hp'
    subst hp'
    by_cases hov : 0 < x.s - x.r - t.above
    · rw [if_neg (by omega)] at ho'
      subst ho'
      go_enter Try.func53, Try.ntmps53
      go_wp2_with fail
      rw [← HW.out]
      have z3 : IntKind.i64.wrap (x.s - x.r - t.above) = x.s - x.r - t.above := IntWalk.i64_in _ (by omega)
      have z4 : (t.above < x.s - x.r) = True := eq_true (by omega)
      go_quiet ((first
        | (go_at_call 64; with_reducible exact quiet_left (refpart_at p0 p1 l0 l1 HY1.out))
        | (go_at_call 64; with_reducible exact quiet_left (refpart_at c0 c1 m0 m1 HY2.out))
        | (go_at_call 64; with_reducible exact quiet_left (refpart_at o0 o1 n0 n1 HY3.out))))
      clear z3 z4
      have hA2 := HA.out.drewN nq
      clear q0 q1 q2 q3
      generalize W.drewN nq = W2 at hA2 ⊢
      obtain ⟨j0, j1, j2, j3, j4, i0, i1, i2, i3, i4⟩ := set_at hA2.res
      have HA2 := Lib.hid hA2
      clear hA2
      go_wp2
      refine bodyPost_ret (v := .agg #[.int .i64 x.s, .int .i64 x.r, .int .i64 x.c, .int .i64 (y1 + y2 + y3), .int .i64 (x.s - x.r - x.c - (y1 + y2 + y3))]) (by simp [results, Try.results53, go_sem, j0, j1, j2, j3, j4]) rfl ⟨rfl, ?_⟩
      exact five_below HA2.out.below (Nat.le_succ _) _ _ _ _ _
    · have ho2 : 0 = o := by
        by_cases e : x.s - x.r - t.above < 0
        · rw [if_pos e] at ho'; exact ho'
        · rw [if_neg e] at ho'; omega
      clear ho'
      subst ho2
      go_enter Try.func53, Try.ntmps53
      go_wp2_with fail
      rw [← HW.out]
      have z3 : IntKind.i64.wrap (x.s - x.r - t.above) = x.s - x.r - t.above := IntWalk.i64_in _ (by omega)
      have z4 : (t.above < x.s - x.r) = False := eq_false (by omega)
      go_quiet ((first
        | (go_at_call 64; with_reducible exact quiet_left (refpart_at p0 p1 l0 l1 HY1.out))
        | (go_at_call 64; with_reducible exact quiet_left (refpart_at c0 c1 m0 m1 HY2.out))
        | (go_at_call 64; with_reducible exact quiet_left (refpart_at o0 o1 n0 n1 HY3.out))))
      clear z3 z4
      have hA2 := HA.out.drewN nq
      clear q0 q1 q2 q3
      generalize W.drewN nq = W2 at hA2 ⊢
      obtain ⟨j0, j1, j2, j3, j4, i0, i1, i2, i3, i4⟩ := set_at hA2.res
      have HA2 := Lib.hid hA2
      clear hA2
      go_wp2
      refine bodyPost_ret (v := .agg #[.int .i64 x.s, .int .i64 x.r, .int .i64 x.c, .int .i64 (y1 + y2 + y3), .int .i64 (x.s - x.r - x.c - (y1 + y2 + y3))]) (by simp [results, Try.results53, go_sem, j0, j1, j2, j3, j4]) rfl ⟨rfl, ?_⟩
      exact five_below HA2.out.below (Nat.le_succ _) _ _ _ _ _
  · have hp2 : 0 = p := by
      by_cases e : x.s - x.r < 0
      · rw [if_pos e] at hp'; exact hp'
      · rw [if_neg e] at hp'; omega
    have ho2 : 0 = o := by
      by_cases e : p - t.above < 0
      · rw [if_pos e] at ho'; exact ho'
      · rw [if_neg e] at ho'; omega
    clear hp' ho'
    subst hp2 ho2
    go_enter Try.func53, Try.ntmps53
    go_wp2_with fail
    rw [← HW.out]
    have z3 : IntKind.i64.wrap (0 - t.above) = 0 - t.above := IntWalk.i64_in _ (by omega)
    have z5 : IntKind.i64.wrap (-t.above) = -t.above := IntWalk.i64_in _ (by omega)
    have z4 : (t.above < 0) = False := eq_false (by omega)
    go_quiet ((first
      | (go_at_call 64; with_reducible exact quiet_left (refpart_at p0 p1 l0 l1 HY1.out))
      | (go_at_call 64; with_reducible exact quiet_left (refpart_at c0 c1 m0 m1 HY2.out))
      | (go_at_call 64; with_reducible exact quiet_left (refpart_at o0 o1 n0 n1 HY3.out))))
    clear z3 z4 z5
    have hA2 := HA.out.drewN nq
    clear q0 q1 q2 q3
    generalize W.drewN nq = W2 at hA2 ⊢
    obtain ⟨j0, j1, j2, j3, j4, i0, i1, i2, i3, i4⟩ := set_at hA2.res
    have HA2 := Lib.hid hA2
    clear hA2
    go_wp2
    refine bodyPost_ret (v := .agg #[.int .i64 x.s, .int .i64 x.r, .int .i64 x.c, .int .i64 (y1 + y2 + y3), .int .i64 (x.s - x.r - x.c - (y1 + y2 + y3))]) (by simp [results, Try.results53, go_sem, j0, j1, j2, j3, j4]) rfl ⟨rfl, ?_⟩
    exact five_below HA2.out.below (Nat.le_succ _) _ _ _ _ _
end Go.Proofs.Ytpalmlcepppifaa
