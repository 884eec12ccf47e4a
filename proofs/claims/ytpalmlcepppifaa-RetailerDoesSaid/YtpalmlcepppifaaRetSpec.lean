/- The walk of a call of the law's script on the reference's account. -/
import Derived.Test.YtpalmlcepppifaaRetRef6
set_option linter.unusedVariables false
namespace Go.Proofs.Ytpalmlcepppifaa
open Go.RowKit

theorem set5_res {w w1 : World} {b : Nat} {h : Nat} {v : Nat → Value} (k : Frm w w1 h v) (hb : w.heap.size ≤ b) (u0 u1 u2 u3 u4 : Value) :
    Frm w (((((w1.setCell ⟨b, 0, none⟩ u0).setCell ⟨b, 1, none⟩ u1).setCell ⟨b, 2, none⟩ u2).setCell ⟨b, 3, none⟩ u3).setCell ⟨b, 4, none⟩ u4) h v :=
  ((((k.setn hb 0 u0).setn hb 1 u1).setn hb 2 u2).setn hb 3 u3).setn hb 4 u4
theorem Ref.new_ {B b i : Nat} {w : World} {h : Nat} {t : Rt.Tm} {x : Rt.St} {L : Nat} {v : Nat → Value} {n : Nat → Nat} {F : Nat → Nat → Int} {u : Value} (r : Ref B w h t x L v n F) (hb : h ≠ b) (hv : ∀ j, j < 3 → (v j).ownBlock ≠ some b) : Ref B (w.setCell ⟨b, i, none⟩ u) h t x L v n F :=
  ⟨r.blk.other hb i u, fun j hj => ⟨own_set (r.rows j hj).own (hv j hj), (r.rows j hj).pos, (r.rows j hj).sum⟩, r.apart, r.off, r.len, r.hB, r.okx⟩
/-- In the midst of a call of the script: what the reference left, the box and the result. -/
structure Specing (B : Nat) (w W : World) (h : Nat) (t : Rt.Tm) (x : Rt.St) (L : Nat) (v0 : Nat → Value) (k a : Int) : Prop where
  ref : ∃ v n F, Ref B W h t x L v n F ∧ (∀ i, i < 3 → (v i).ownBlock ≠ some (w.heap.size + 1)) ∧ (∀ i, i < 3 → (v i).ownBlock ≠ some w.heap.size)
  box : Blk W w.heap.size 51 #[.int .i64 k, .int .i64 a]
  res : Blk W (w.heap.size + 1) 44 #[.int .i64 0, .int .i64 0, .int .i64 0, .int .i64 0, .int .i64 0]
  below : Below B w W
  frm : Frm w W h v0
theorem Ref.old {B b : Nat} {w : World} {h : Nat} {t : Rt.Tm} {x : Rt.St} {L : Nat} {v : Nat → Value} {n : Nat → Nat} {F : Nat → Nat → Int} (r : Ref B w h t x L v n F) (hb : w.heap.size ≤ b) : (∀ i, i < 3 → (v i).ownBlock ≠ some b) ∧ h ≠ b :=
  ⟨fun i hi e => by have := ((r.rows i hi).own.lt b e).2; omega, by have := r.blk.lt; omega⟩
theorem Specing.ends {B : Nat} {w W : World} {h : Nat} {t : Rt.Tm} {x : Rt.St} {L : Nat} {v0 : Nat → Value} {k a : Int} (s : Specing B w W h t x L v0 k a) (hB : B ≤ w.heap.size) (hh : h < w.heap.size) (u0 u1 u2 u3 u4 : Value) :
    RefE B (((((W.setCell ⟨w.heap.size + 1, 0, none⟩ u0).setCell ⟨w.heap.size + 1, 1, none⟩ u1).setCell ⟨w.heap.size + 1, 2, none⟩ u2).setCell ⟨w.heap.size + 1, 3, none⟩ u3).setCell ⟨w.heap.size + 1, 4, none⟩ u4) h t x L ∧
    Below B w (((((W.setCell ⟨w.heap.size + 1, 0, none⟩ u0).setCell ⟨w.heap.size + 1, 1, none⟩ u1).setCell ⟨w.heap.size + 1, 2, none⟩ u2).setCell ⟨w.heap.size + 1, 3, none⟩ u3).setCell ⟨w.heap.size + 1, 4, none⟩ u4) ∧
    Frm w (((((W.setCell ⟨w.heap.size + 1, 0, none⟩ u0).setCell ⟨w.heap.size + 1, 1, none⟩ u1).setCell ⟨w.heap.size + 1, 2, none⟩ u2).setCell ⟨w.heap.size + 1, 3, none⟩ u3).setCell ⟨w.heap.size + 1, 4, none⟩ u4) h v0 := by
  obtain ⟨v, n, F, hr, h1, h2⟩ := s.ref
  have hne : h ≠ w.heap.size + 1 := by omega
  refine ⟨⟨v, n, F, ((((hr.new_ hne h1).new_ hne h1).new_ hne h1).new_ hne h1).new_ hne h1⟩, ?_, set5_res s.frm (Nat.le_succ _) _ _ _ _ _⟩
  have hb : B ≤ w.heap.size + 1 := by omega
  exact ((((s.below.setCell (p := ⟨w.heap.size + 1, 0, none⟩) hb _).setCell (p := ⟨w.heap.size + 1, 1, none⟩) hb _).setCell (p := ⟨w.heap.size + 1, 2, none⟩) hb _).setCell (p := ⟨w.heap.size + 1, 3, none⟩) hb _).setCell (p := ⟨w.heap.size + 1, 4, none⟩) hb _
/-- Behind a call of the reference. -/
theorem Specing.of {B : Nat} {w W W1 : World} {h : Nat} {t : Rt.Tm} {x x' : Rt.St} {L L' : Nat} {v : Nat → Value} {n : Nat → Nat} {F : Nat → Nat → Int} {k a : Int} (r : Ref B w h t x L v n F) (hB : B ≤ w.heap.size)
    (hW : W = (w.alloc (.cells #[.int .i64 k, .int .i64 a] 51)).alloc (.cells #[.int .i64 0, .int .i64 0, .int .i64 0, .int .i64 0, .int .i64 0] 44)) (hr : RefE B W1 h t x' L') (hb : Below B W W1) (hf : Frm W W1 h v) : Specing B w W1 h t x' L' v k a := by
  have hsz : W.heap.size = w.heap.size + 2 := by rw [hW]; simp
  have hbox : Blk W w.heap.size 51 #[.int .i64 k, .int .i64 a] := by rw [hW]; exact (Blk.new w _ _).alloc _
  have hres : Blk W (w.heap.size + 1) 44 #[.int .i64 0, .int .i64 0, .int .i64 0, .int .i64 0, .int .i64 0] := by rw [hW]; exact Blk.new_ (by simp)
  have hbx1 : Blk W1 w.heap.size 51 #[.int .i64 k, .int .i64 a] := (hf _ (by omega) (r.old (Nat.le_refl _)).2.symm (r.old (Nat.le_refl _)).1).trans hbox
  have hrs1 : Blk W1 (w.heap.size + 1) 44 #[.int .i64 0, .int .i64 0, .int .i64 0, .int .i64 0, .int .i64 0] := (hf _ (by omega) (r.old (Nat.le_succ _)).2.symm (r.old (Nat.le_succ _)).1).trans hres
  have hwW : Below w.heap.size w W := by rw [hW]; exact ((Below.refl _ _).alloc (Nat.le_refl _) _).alloc (by simp) _
  refine ⟨?_, hbx1, hrs1, (hwW.mono hB).trans hb, fun b hl h1 h2 => (hf b (by omega) h1 h2).trans (hwW.block b hl)⟩
  obtain ⟨v1, n1, F1, hr1⟩ := hr
  refine ⟨v1, n1, F1, hr1, fun i hi e => ?_, fun i hi e => ?_⟩
  · obtain ⟨g, cap, cur, hv, _, hg, _⟩ := (hr1.rows i hi).own.2.resolve_left (fun hn => by rw [hn.1] at e; cases e)
    rw [hv] at e
    injection e with e
    simp at e
    subst e
    unfold Blk at hrs1
    rw [hrs1] at hg
    injection hg with hg
    injection hg with _ hg
    revert hg; decide
  · obtain ⟨g, cap, cur, hv, _, hg, _⟩ := (hr1.rows i hi).own.2.resolve_left (fun hn => by rw [hn.1] at e; cases e)
    rw [hv] at e
    injection e with e
    simp at e
    subst e
    unfold Blk at hbx1
    rw [hbx1] at hg
    injection hg with hg
    injection hg with _ hg
    revert hg; decide
/-- What a call of the script leaves. -/
def RTold (B : Nat) (w : World) (h : Nat) (t : Rt.Tm) (x : Rt.St) (L : Nat) (v : Nat → Value) (y : Value) (e : Ending) (w' : World) : Prop :=
  e = .returned y ∧ RefE B w' h t x L ∧ Below B w w' ∧ Frm w w' h v

set_option maxHeartbeats 2000000 in
theorem spec_any {B : Nat} {w : World} {h : Nat} {t : Rt.Tm} {x : Rt.St} {L : Nat} {v : Nat → Value} {n : Nat → Nat} {F : Nat → Nat → Int} {k a : Int} (r : Ref B w h t x L v n F) (hL : L ≤ 999) (ht : Rt.okT t) (hB : B ≤ w.heap.size) :
    Calls Try.prog 29 #[.pointer (some ⟨h, 0, none⟩), .agg #[.int .i64 k, .int .i64 a]] w (RTold B w h t (Rt.nxt t x k a) (L + 1) v (.tuple #[.int .i64 (Rt.err t x k a), .agg (outC t x k)])) := by
  have hlt := r.blk.lt
  obtain ⟨W, hW⟩ : ∃ W, W = (w.alloc (.cells #[.int .i64 k, .int .i64 a] 51)).alloc (.cells #[.int .i64 0, .int .i64 0, .int .i64 0, .int .i64 0, .int .i64 0] 44) := ⟨_, rfl⟩
  have hR : Ref B W h t x L v n F := by rw [hW]; exact (r.keep ((Below.refl _ _).alloc (Nat.le_refl _) _)).keep ((Below.refl _ _).alloc (Nat.le_refl _) _)
  have hBW : B ≤ W.heap.size := by rw [hW]; simp; omega
  have hbox : Blk W w.heap.size 51 #[.int .i64 k, .int .i64 a] := by rw [hW]; exact (Blk.new w _ _).alloc _
  have q0 := hbox.cell 0
  have q1 := hbox.cell 1
  simp at q0 q1
  have HT := Lib.hid ht
  have HW := Lib.hid hW
  have HR := Lib.hid hR
  have HR0 := Lib.hid r
  clear ht hW hR r hbox
  by_cases k0 : k = 0
  · subst k0
    have he : Rt.err t x 0 a = Rt.sErr t x a := rfl
    have ho : outC t x 0 = zeroC := rfl
    rw [he, ho]
    unfold zeroC
    clear he ho
    go_enter Try.func29, Try.ntmps29
    go_wp2_with fail
    rw [← HW.out]
    refine (refSale_any HR.out hL HT.out hBW).mono ?_
    rintro e w1 ⟨rfl, ho1, hb1, hf1⟩
    have HA1 := Lib.hid (Specing.of HR0.out hB HW.out ho1 hb1 hf1)
    obtain ⟨j0, j1, j2, j3, j4, i0, i1, i2, i3, i4⟩ := set_at HA1.out.res
    clear q0 q1 ho1 hb1 hf1
    go_wp2
    refine bodyPost_ret (v := .tuple #[.int .i64 (Rt.sErr t x a), .agg #[.int .i64 0, .int .i64 0, .int .i64 0, .int .i64 0, .int .i64 0]]) (by simp [results, Try.results29, go_sem, j0, j1, j2, j3, j4]) rfl ⟨rfl, HA1.out.ends hB hlt _ _ _ _ _⟩
  by_cases k1 : k = 1
  · subst k1
    have he : Rt.err t x 1 a = Rt.room x.r a := rfl
    have ho : outC t x 1 = zeroC := rfl
    rw [he, ho]
    unfold zeroC
    clear he ho
    go_enter Try.func29, Try.ntmps29
    go_wp2_with fail
    rw [← HW.out]
    refine (refRefund_any HR.out hL HT.out hBW).mono ?_
    rintro e w1 ⟨rfl, ho1, hb1, hf1⟩
    have HA1 := Lib.hid (Specing.of HR0.out hB HW.out ho1 hb1 hf1)
    obtain ⟨j0, j1, j2, j3, j4, i0, i1, i2, i3, i4⟩ := set_at HA1.out.res
    clear q0 q1 ho1 hb1 hf1
    go_wp2
    refine bodyPost_ret (v := .tuple #[.int .i64 (Rt.room x.r a), .agg #[.int .i64 0, .int .i64 0, .int .i64 0, .int .i64 0, .int .i64 0]]) (by simp [results, Try.results29, go_sem, j0, j1, j2, j3, j4]) rfl ⟨rfl, HA1.out.ends hB hlt _ _ _ _ _⟩
  by_cases k2 : k = 2
  · subst k2
    have he : Rt.err t x 2 a = Rt.room x.c a := rfl
    have ho : outC t x 2 = zeroC := rfl
    rw [he, ho]
    unfold zeroC
    clear he ho
    go_enter Try.func29, Try.ntmps29
    go_wp2_with fail
    rw [← HW.out]
    refine (refCash_any HR.out hL HT.out hBW).mono ?_
    rintro e w1 ⟨rfl, ho1, hb1, hf1⟩
    have HA1 := Lib.hid (Specing.of HR0.out hB HW.out ho1 hb1 hf1)
    obtain ⟨j0, j1, j2, j3, j4, i0, i1, i2, i3, i4⟩ := set_at HA1.out.res
    clear q0 q1 ho1 hb1 hf1
    go_wp2
    refine bodyPost_ret (v := .tuple #[.int .i64 (Rt.room x.c a), .agg #[.int .i64 0, .int .i64 0, .int .i64 0, .int .i64 0, .int .i64 0]]) (by simp [results, Try.results29, go_sem, j0, j1, j2, j3, j4]) rfl ⟨rfl, HA1.out.ends hB hlt _ _ _ _ _⟩
  obtain ⟨a0, a1, a2, a3, a4, hset⟩ : ∃ a0 a1 a2 a3 a4 : Int, setC t x = #[.int .i64 a0, .int .i64 a1, .int .i64 a2, .int .i64 a3, .int .i64 a4] := ⟨_, _, _, _, _, rfl⟩
  have ho : outC t x k = #[.int .i64 a0, .int .i64 a1, .int .i64 a2, .int .i64 a3, .int .i64 a4] := by unfold outC; rw [if_neg (by omega), hset]
  have he : Rt.err t x k a = 0 := by unfold Rt.err; rw [if_neg k0, if_neg k1, if_neg k2]
  rw [ho, he]
  have HS := Lib.hid hset
  clear ho he hset
  by_cases k3 : k = 3
  · subst k3
    have hn : Rt.nxt t x 3 a = Rt.zero := rfl
    rw [hn]
    clear hn k0 k1 k2
    go_enter Try.func29, Try.ntmps29
    go_wp2_with fail
    rw [← HW.out]
    refine (refSettle_any HR.out (by omega) HT.out hBW).mono ?_
    rintro e w1 ⟨rfl, ho1, hb1, hf1⟩
    rw [HS.out]
    have HA1 := Lib.hid (Specing.of HR0.out hB HW.out (ho1.more (Nat.zero_le (L + 1))) hb1 hf1)
    obtain ⟨j0, j1, j2, j3, j4, i0, i1, i2, i3, i4⟩ := set_at HA1.out.res
    clear q0 q1 ho1 hb1 hf1
    go_wp2
    refine bodyPost_ret (v := .tuple #[.int .i64 0, .agg #[.int .i64 a0, .int .i64 a1, .int .i64 a2, .int .i64 a3, .int .i64 a4]]) (by simp [results, Try.results29, go_sem, j0, j1, j2, j3, j4]) rfl ⟨rfl, HA1.out.ends hB hlt _ _ _ _ _⟩
  · have hn : Rt.nxt t x k a = x := by unfold Rt.nxt; rw [if_neg k0, if_neg k1, if_neg k2, if_neg k3]
    rw [hn]
    have d0 : (k == 0) = false := by simp [k0]
    have d1 : (k == 1) = false := by simp [k1]
    have d2 : (k == 2) = false := by simp [k2]
    have d3 : (k == 3) = false := by simp [k3]
    clear hn k0 k1 k2 k3
    go_enter Try.func29, Try.ntmps29
    go_wp2_with fail
    rw [← HW.out]
    refine (refOpen_any ⟨_, _, _, HR.out⟩ (by omega) HT.out).mono ?_
    rintro e w1 ⟨rfl, hb1⟩
    rw [HS.out]
    have HA1 := Lib.hid (Specing.of (L' := L + 1) HR0.out hB HW.out (RefE.more ⟨_, _, _, HR.out.keep hb1⟩ (Nat.le_succ _)) (hb1.mono hBW) (Frm.below hb1))
    obtain ⟨j0, j1, j2, j3, j4, i0, i1, i2, i3, i4⟩ := set_at HA1.out.res
    clear q0 q1 hb1
    go_wp2
    refine bodyPost_ret (v := .tuple #[.int .i64 0, .agg #[.int .i64 a0, .int .i64 a1, .int .i64 a2, .int .i64 a3, .int .i64 a4]]) (by simp [results, Try.results29, go_sem, j0, j1, j2, j3, j4]) rfl ⟨rfl, HA1.out.ends hB hlt _ _ _ _ _⟩
end Go.Proofs.Ytpalmlcepppifaa
