/- The walk of a call of the law's script. -/
import Derived.Test.YtpalmlcepppifaaRetAct
set_option linter.unusedVariables false
namespace Go.Proofs.Ytpalmlcepppifaa
open Go.RowKit

/-- What a call of the script returns as a settlement. -/
def outC (t : Rt.Tm) (x : Rt.St) (k : Int) : Array Value := if k = 0 ∨ k = 1 ∨ k = 2 then zeroC else setC t x
/-- In the midst of a call of the script. -/
structure Acting (w W : World) (g : Nat) (t : Rt.Tm) (x : Rt.St) (k a : Int) : Prop where
  obj : Obj W g t x
  box : Blk W w.heap.size 51 #[.int .i64 k, .int .i64 a]
  res : Blk W (w.heap.size + 1) 44 #[.int .i64 0, .int .i64 0, .int .i64 0, .int .i64 0, .int .i64 0]
  grown : w.grownBy W (some g)
theorem Acting.call {w W W1 : World} {g : Nat} {t : Rt.Tm} {x x' : Rt.St} {k a : Int} (h : Acting w W g t x k a) (hg : g < w.heap.size) (ho : Obj W1 g t x') (hb : W.grownBy W1 (some g)) : Acting w W1 g t x' k a :=
  ⟨ho, h.box.grown hb (by simp; omega), h.res.grown hb (by simp; omega), only_trans h.grown hb⟩
theorem Acting.keep {w W W1 : World} {g : Nat} {t : Rt.Tm} {x : Rt.St} {k a : Int} (h : Acting w W g t x k a) (hb : Below W.heap.size W W1) : Acting w W1 g t x k a :=
  ⟨h.obj.keep hb, h.box.keep hb, h.res.keep hb, only_on h.grown hb⟩
theorem Acting.at_ {w W : World} {g : Nat} {t : Rt.Tm} {x : Rt.St} {k a : Int} (h : Acting w W g t x k a) :
    W.cell? ⟨w.heap.size, 0, none⟩ = some (.int .i64 k) ∧ W.cell? ⟨w.heap.size, 1, none⟩ = some (.int .i64 a) := ⟨h.box.cell 0, h.box.cell 1⟩
theorem Acting.ends {w W : World} {g : Nat} {t : Rt.Tm} {x : Rt.St} {k a : Int} {u0 u1 u2 u3 u4 : Value} (h : Acting w W g t x k a) (hg : g < w.heap.size) :
    Obj (((((W.setCell ⟨w.heap.size + 1, 0, none⟩ u0).setCell ⟨w.heap.size + 1, 1, none⟩ u1).setCell ⟨w.heap.size + 1, 2, none⟩ u2).setCell ⟨w.heap.size + 1, 3, none⟩ u3).setCell ⟨w.heap.size + 1, 4, none⟩ u4) g t x ∧
    w.grownBy (((((W.setCell ⟨w.heap.size + 1, 0, none⟩ u0).setCell ⟨w.heap.size + 1, 1, none⟩ u1).setCell ⟨w.heap.size + 1, 2, none⟩ u2).setCell ⟨w.heap.size + 1, 3, none⟩ u3).setCell ⟨w.heap.size + 1, 4, none⟩ u4) (some g) := by
  have hne : g ≠ w.heap.size + 1 := by omega
  exact ⟨((((h.obj.other hne _ _).other hne _ _).other hne _ _).other hne _ _).other hne _ _,
    only_new (only_new (only_new (only_new (only_new h.grown (Nat.le_succ _) _ _) (Nat.le_succ _) _ _) (Nat.le_succ _) _ _) (Nat.le_succ _) _ _) (Nat.le_succ _) _ _⟩
theorem Acting.start {w : World} {g : Nat} {t : Rt.Tm} {x : Rt.St} {k a : Int} (h : Obj w g t x) :
    Acting w ((w.alloc (.cells #[.int .i64 k, .int .i64 a] 51)).alloc (.cells #[.int .i64 0, .int .i64 0, .int .i64 0, .int .i64 0, .int .i64 0] 44)) g t x k a :=
  ⟨(h.alloc _).alloc _, (Blk.new w _ _).alloc _, Blk.new_ (by simp), only_alloc (only_alloc (only_refl _ _) _) _⟩

set_option maxHeartbeats 2000000 in
theorem act_any {w : World} {g : Nat} {t : Rt.Tm} {x : Rt.St} {k a : Int} (h : Obj w g t x) (ht : Rt.okT t) (hx : Rt.okS x) :
    Calls Try.prog 28 #[.pointer (some ⟨g, 0, none⟩), .agg #[.int .i64 k, .int .i64 a]] w (Told w g t (Rt.nxt t x k a) (.tuple #[.int .i64 (Rt.err t x k a), .agg (outC t x k)])) := by
  have hlt := h.lt
  obtain ⟨W, hW⟩ : ∃ W, W = (w.alloc (.cells #[.int .i64 k, .int .i64 a] 51)).alloc (.cells #[.int .i64 0, .int .i64 0, .int .i64 0, .int .i64 0, .int .i64 0] 44) := ⟨_, rfl⟩
  have hA : Acting w W g t x k a := by rw [hW]; exact Acting.start h
  obtain ⟨q0, q1⟩ := hA.at_
  have HT := Lib.hid ht
  have HX := Lib.hid hx
  have HW := Lib.hid hW
  clear ht hx h hW
  by_cases k0 : k = 0
  · subst k0
    have he : Rt.err t x 0 a = Rt.sErr t x a := rfl
    have ho : outC t x 0 = zeroC := rfl
    rw [he, ho]
    unfold zeroC
    clear he ho
    go_enter Try.func28, Try.ntmps28
    go_wp2_with fail
    rw [← HW.out]
    clear HW
    refine (sale_any hA.obj HT.out HX.out).mono ?_
    rintro e w1 ⟨rfl, ho1, hb1⟩
    have HA1 := Lib.hid (hA.call hlt ho1 hb1)
    obtain ⟨j0, j1, j2, j3, j4, i0, i1, i2, i3, i4⟩ := set_at HA1.out.res
    clear hA q0 q1 ho1 hb1
    go_wp2
    refine bodyPost_ret (v := .tuple #[.int .i64 (Rt.sErr t x a), .agg #[.int .i64 0, .int .i64 0, .int .i64 0, .int .i64 0, .int .i64 0]]) (by simp [results, Try.results28, go_sem, j0, j1, j2, j3, j4]) rfl ⟨rfl, HA1.out.ends hlt⟩
  by_cases k1 : k = 1
  · subst k1
    have he : Rt.err t x 1 a = Rt.room x.r a := rfl
    have ho : outC t x 1 = zeroC := rfl
    rw [he, ho]
    unfold zeroC
    clear he ho
    go_enter Try.func28, Try.ntmps28
    go_wp2_with fail
    rw [← HW.out]
    clear HW
    refine (refund_any hA.obj HX.out).mono ?_
    rintro e w1 ⟨rfl, ho1, hb1⟩
    have HA1 := Lib.hid (hA.call hlt ho1 hb1)
    obtain ⟨j0, j1, j2, j3, j4, i0, i1, i2, i3, i4⟩ := set_at HA1.out.res
    clear hA q0 q1 ho1 hb1
    go_wp2
    refine bodyPost_ret (v := .tuple #[.int .i64 (Rt.room x.r a), .agg #[.int .i64 0, .int .i64 0, .int .i64 0, .int .i64 0, .int .i64 0]]) (by simp [results, Try.results28, go_sem, j0, j1, j2, j3, j4]) rfl ⟨rfl, HA1.out.ends hlt⟩
  by_cases k2 : k = 2
  · subst k2
    have he : Rt.err t x 2 a = Rt.room x.c a := rfl
    have ho : outC t x 2 = zeroC := rfl
    rw [he, ho]
    unfold zeroC
    clear he ho
    go_enter Try.func28, Try.ntmps28
    go_wp2_with fail
    rw [← HW.out]
    clear HW
    refine (cash_any hA.obj HX.out).mono ?_
    rintro e w1 ⟨rfl, ho1, hb1⟩
    have HA1 := Lib.hid (hA.call hlt ho1 hb1)
    obtain ⟨j0, j1, j2, j3, j4, i0, i1, i2, i3, i4⟩ := set_at HA1.out.res
    clear hA q0 q1 ho1 hb1
    go_wp2
    refine bodyPost_ret (v := .tuple #[.int .i64 (Rt.room x.c a), .agg #[.int .i64 0, .int .i64 0, .int .i64 0, .int .i64 0, .int .i64 0]]) (by simp [results, Try.results28, go_sem, j0, j1, j2, j3, j4]) rfl ⟨rfl, HA1.out.ends hlt⟩
  obtain ⟨a0, a1, a2, a3, a4, hset⟩ : ∃ a0 a1 a2 a3 a4 : Int, setC t x = #[.int .i64 a0, .int .i64 a1, .int .i64 a2, .int .i64 a3, .int .i64 a4] := ⟨_, _, _, _, _, rfl⟩
  have ho : outC t x k = #[.int .i64 a0, .int .i64 a1, .int .i64 a2, .int .i64 a3, .int .i64 a4] := by unfold outC; rw [if_neg (by omega), hset]
  have he : Rt.err t x k a = 0 := by unfold Rt.err; rw [if_neg k0, if_neg k1, if_neg k2]
  rw [ho, he]
  have HS := Lib.hid hset
  clear ho he hset
  by_cases k3 : k = 3
  · subst k3
    have hn : Rt.nxt t x 3 a = Rt.zero := rfl
    rw [hn]
    clear hn k0 k1 k2
    go_enter Try.func28, Try.ntmps28
    go_wp2_with fail
    rw [← HW.out]
    clear HW
    refine (settle_any hA.obj HT.out HX.out).mono ?_
    rintro e w1 ⟨rfl, ho1, hb1⟩
    rw [HS.out]
    have HA1 := Lib.hid (hA.call hlt ho1 hb1)
    obtain ⟨j0, j1, j2, j3, j4, i0, i1, i2, i3, i4⟩ := set_at HA1.out.res
    clear hA q0 q1 ho1 hb1
    go_wp2
    refine bodyPost_ret (v := .tuple #[.int .i64 0, .agg #[.int .i64 a0, .int .i64 a1, .int .i64 a2, .int .i64 a3, .int .i64 a4]]) (by simp [results, Try.results28, go_sem, j0, j1, j2, j3, j4]) rfl ⟨rfl, HA1.out.ends hlt⟩
  · have hn : Rt.nxt t x k a = x := by unfold Rt.nxt; rw [if_neg k0, if_neg k1, if_neg k2, if_neg k3]
    rw [hn]
    have d0 : (k == 0) = false := by simp [k0]
    have d1 : (k == 1) = false := by simp [k1]
    have d2 : (k == 2) = false := by simp [k2]
    have d3 : (k == 3) = false := by simp [k3]
    clear hn k0 k1 k2 k3
    go_enter Try.func28, Try.ntmps28
    go_wp2_with fail
    rw [← HW.out]
    clear HW
    refine (open_any hA.obj HT.out HX.out).mono ?_
    rintro e w1 ⟨rfl, hb1⟩
    rw [HS.out]
    have HA1 := Lib.hid (hA.keep hb1)
    obtain ⟨j0, j1, j2, j3, j4, i0, i1, i2, i3, i4⟩ := set_at HA1.out.res
    clear hA q0 q1 hb1
    go_wp2
    refine bodyPost_ret (v := .tuple #[.int .i64 0, .agg #[.int .i64 a0, .int .i64 a1, .int .i64 a2, .int .i64 a3, .int .i64 a4]]) (by simp [results, Try.results28, go_sem, j0, j1, j2, j3, j4]) rfl ⟨rfl, HA1.out.ends hlt⟩
end Go.Proofs.Ytpalmlcepppifaa
