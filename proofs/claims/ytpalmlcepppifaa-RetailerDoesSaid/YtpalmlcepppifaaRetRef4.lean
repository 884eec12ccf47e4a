/- The walks of the reference's account: Open, Settle, Sale, Refund, Cash. -/
import Derived.Test.YtpalmlcepppifaaRetRef3
set_option linter.unusedVariables false
namespace Go.Proofs.Ytpalmlcepppifaa
open Go.RowKit

theorem Try.infoInt49 : (Try.prog.info? 3).map (fun i => (i.zero, i.size, i.bytes)) = some (some (.int .i64 0), 1, 8) := by kernel_rfl
theorem below_drew (w : World) : Below w.heap.size w w.drew := below_drewN (Below.refl _ _) 1

set_option maxHeartbeats 1000000 in
set_option maxRecDepth 100000 in
theorem refOpen_any {B : Nat} {w : World} {h : Nat} {t : Rt.Tm} {x : Rt.St} {L : Nat} (r : RefE B w h t x L) (hL : L ≤ 1000) (ht : Rt.okT t) :
    Calls Try.prog 30 #[.pointer (some ⟨h, 0, none⟩)] w fun e w' => e = .returned (.agg (setC t x)) ∧ Below w.heap.size w w' := by
  obtain ⟨v, n, F, r0⟩ := r
  obtain ⟨W, hW⟩ : ∃ W, W = w.alloc (.cells #[.int .i64 0, .int .i64 0, .int .i64 0, .int .i64 0, .int .i64 0] 44) := ⟨_, rfl⟩
  have hr : Ref B W h t x L v n F := by rw [hW]; exact r0.keep ((Below.refl _ _).alloc (Nat.le_refl _) _)
  have hR : Blk W w.heap.size 44 #[.int .i64 0, .int .i64 0, .int .i64 0, .int .i64 0, .int .i64 0] := by rw [hW]; exact Blk.new w _ _
  have hB : Below w.heap.size w W := by rw [hW]; exact (Below.refl _ _).alloc (Nat.le_refl _) _
  obtain ⟨A, c, hv, q0, q1, q2, q3, q4, q5, q6, q7, f5, f6, f7⟩ := hr.open_
  obtain ⟨⟨s0, s1⟩, ⟨s2, s3⟩, ⟨s4, s5⟩⟩ := r0.okx
  have c1 := rsum_at (w := W.drew) (c := c 0) (by have := hr.len 0 (by omega); omega) (hv 0 (by omega)).2 (hr.rows 0 (by omega)).pos (show sm (F 0) (n 0) = x.s from (hr.rows 0 (by omega)).sum) s1
  have c2 := rsum_at (w := W.drew) (c := c 1) (by have := hr.len 1 (by omega); omega) (hv 1 (by omega)).2 (hr.rows 1 (by omega)).pos (show sm (F 1) (n 1) = x.r from (hr.rows 1 (by omega)).sum) s3
  have c3 := rsum_at (w := W.drew) (c := c 2) (by have := hr.len 2 (by omega); omega) (hv 2 (by omega)).2 (hr.rows 2 (by omega)).pos (show sm (F 2) (n 2) = x.c from (hr.rows 2 (by omega)).sum) s5
  have C1 := Lib.hid c1
  have C2 := Lib.hid c2
  have C3 := Lib.hid c3
  have HX := Lib.hid r0.okx
  have HT := Lib.hid ht
  have HW := Lib.hid hW
  have HR := Lib.hid hR
  have HB := Lib.hid hB
  obtain ⟨a0, a1, hset⟩ := set_letters t x
  rw [hset]
  have HS := Lib.hid hset
  clear r0 hr c1 c2 c3 hW hR hB ht hv hset
  go_enter Try.func30, Try.ntmps30
  go_wp2_with fail
  rw [← HW.out]
  refine wp_region_still_tail 19 (by kernel_rfl) (by kernel_rfl) ?_
  simp only [List.take_succ_cons, List.take_zero, List.drop_succ_cons, List.drop_zero]
  iterate 4 still_step
  iterate 4 still_step
  still_call (C1.out.mono fun _ _ h => ⟨h.1, h.2.symm⟩)
  iterate 4 still_step
  still_call (C2.out.mono fun _ _ h => ⟨h.1, h.2.symm⟩)
  iterate 4 still_step
  still_call (C3.out.mono fun _ _ h => ⟨h.1, h.2.symm⟩)
  try refine wpStill_nil ?_
  change wpList _ _ _ _ _ W.drew
  have HR2 := Lib.hid (HR.out.keep (below_drew W))
  have HB2 := Lib.hid (Below.on HB.out (below_drew W))
  clear q0 q1 q2 q3 q4 q5 q6 q7 f5 f6 f7 C1 C2 C3 HR HB HW
  generalize W.drew = W2 at HR2 HB2 ⊢
  go_wp2_with fail
  refine (account_any HT.out HX.out).mono ?_
  rintro e w3 ⟨rfl, hb3⟩
  rw [HS.out]
  have HR3 := Lib.hid (HR2.out.keep hb3)
  have HB3 := Lib.hid (Below.on HB2.out hb3)
  obtain ⟨j0, j1, j2, j3, j4, i0, i1, i2, i3, i4⟩ := set_at HR3.out
  clear hb3
  go_wp2
  refine bodyPost_ret (v := .agg #[.int .i64 x.s, .int .i64 x.r, .int .i64 x.c, .int .i64 a0, .int .i64 a1]) (by simp [results, Try.results30, go_sem, j0, j1, j2, j3, j4]) rfl ⟨rfl, ?_⟩
  exact five_below HB3.out (Nat.le_refl _) _ _ _ _ _
end Go.Proofs.Ytpalmlcepppifaa
