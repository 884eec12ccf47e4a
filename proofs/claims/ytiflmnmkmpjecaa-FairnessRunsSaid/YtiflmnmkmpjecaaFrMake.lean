/- The walk of frac.Make. -/
import Derived.Test.YtiflmnmkmpjecaaFrBase
set_option linter.unusedVariables false
namespace Go.Proofs.Ytiflmnmkmpjecaa
open Go.RowKit
namespace Fr
theorem boxes (w : World) (S T : Value) : Bs w (((w.alloc (.cells #[S] 32)).alloc (.cells #[T] 32)).alloc (.cells #[.slice none 0 0, .slice none 0 0] 34))
    [(w.heap.size + 1 + 1, 34, #[.slice none 0 0, .slice none 0 0]), (w.heap.size + 1, 32, #[T]), (w.heap.size, 32, #[S])] := by
  have := (((Bs.nil w).alloc 32 #[S]).alloc 32 #[T]).alloc 34 #[.slice none 0 0, .slice none 0 0]
  simp only [World.size_alloc] at this
  exact this
theorem ends2 {w w5 : World} {z : Nat} (h : Below w.heap.size w w5) (hz : w.heap.size ≤ z) (a b : Value) (o o2 : Go.Obj) : Below w.heap.size w ((((w5.setCell ⟨z, 0, none⟩ a).setCell ⟨z, 1, none⟩ b).alloc o).alloc o2) :=
  bl_alloc (bl_alloc ((h.setCell (p := ⟨z, 0, none⟩) hz a).setCell (p := ⟨z, 1, none⟩) hz b) _) _
set_option maxHeartbeats 4000000 in
set_option maxRecDepth 100000 in
theorem make_any {D E : Option Addr} {n m c c' x y : Nat} {w : World} (hn : n ≤ 64) (hm : m ≤ 64) (hnx : n = L32 x) (hmy : m = L32 y) (hx : Cells w D n (Lm (d32 x))) (hy : Cells w E m (Lm (d32 y))) (hy0 : 0 < y) :
    Calls Try.prog 57 #[natv D n c, natv E m c'] w fun e w' => Res w.heap.size w' e (x / Nat.gcd x y) (y / Nat.gcd x y) ∧ Below w.heap.size w w' := by
  have hvx := Lib.hid (vd_true hn hnx)
  have hvy := Lib.hid (vd_true hm hmy)
  have hm0 : 0 < m := by
    rcases Nat.eq_zero_or_pos m with h | h
    · have h0 : y = 0 := L32_zero.1 (hmy.symm.trans h)
      omega
    · exact h
  have hmz : ((m : Int) == 0) = false := by simp; omega
  have HX := Lib.hid hnx
  have HY := Lib.hid hmy
  obtain ⟨g, hg⟩ : ∃ g, g = Nat.gcd x y := ⟨_, rfl⟩
  obtain ⟨lg, hlg2⟩ : ∃ l, l = L32 g := ⟨_, rfl⟩
  have HG64 : Hid (lg ≤ 64) := by rw [hlg2, hg]; exact Lib.hid (gcd_len (x := x) (y := y) (by omega) (by omega))
  have HG0 : Hid (0 < g) := by rw [hg]; exact Lib.hid (Nat.gcd_pos_of_pos_right x hy0)
  have HGG := Lib.hid hg
  have HLG := Lib.hid hlg2
  clear hg hlg2
  clear hnx hmy
  have BS0 := Lib.hid (boxes w (.slice D n c) (.slice E m c'))
  unfold natv
  go_enter Try.func57, Try.ntmps57
  go_wp2_with fail
  refine (nvalid_is (by omega) (hx.below BS0.out.below) hvx.out).mono ?_
  rintro e w1 ⟨rfl, hb1⟩
  have BS1 := Lib.hid (BS0.out.on hb1)
  clear hb1 BS0
  have q1 : w1.cell? ⟨w.heap.size + 1, 0, none⟩ = some (.slice E m c') := (BS1.out.get (.tail _ (.head _))).2.2.cell 0
  go_wp2_with fail
  refine (nvalid_is (by omega) (hy.below BS1.out.below) hvy.out).mono ?_
  rintro e w2 ⟨rfl, hb1⟩
  have BS2 := Lib.hid (BS1.out.on hb1)
  clear hb1 BS1 q1
  have q0 : w2.cell? ⟨w.heap.size, 0, none⟩ = some (.slice D n c) := (BS2.out.get (.tail _ (.tail _ (.head _)))).2.2.cell 0
  have q1 : w2.cell? ⟨w.heap.size + 1, 0, none⟩ = some (.slice E m c') := (BS2.out.get (.tail _ (.head _))).2.2.cell 0
  go_wp2_with fail
  refine (gcd_any (x := x) (y := y) hn hm HX.out HY.out (hx.below BS2.out.below) (hy.below BS2.out.below)).mono ?_
  rintro e w3 ⟨Dg, cg, rfl, hlg, hcg, hfg, hb3⟩
  rw [← HGG.out, ← HLG.out] at hlg hcg ⊢
  have bs3 := BS2.out.on hb3
  obtain ⟨z, hz⟩ : ∃ z, z = w.heap.size + 1 + 1 := ⟨_, rfl⟩
  rw [← hz] at bs3 ⊢
  have hzw : w.heap.size ≤ z := by omega
  have BS3 := Lib.hid bs3
  clear bs3 hz
  have HCG := Lib.hid hcg
  have HLC := Lib.hid hlg
  have HFG := Lib.hid hfg
  clear hcg hlg hfg hb3 BS2 q0 q1
  have q0 : w3.cell? ⟨w.heap.size, 0, none⟩ = some (.slice D n c) := (BS3.out.get (.tail _ (.tail _ (.head _)))).2.2.cell 0
  unfold natv
  have h46 := (BS3.out.get (.tail _ (.tail _ (.head _)))).2.1
  have BS4 := Lib.hid (BS3.out.alloc 32 #[.slice Dg lg cg])
  go_wp2_with fail
  refine (divmod_any (x := x) (y := g) hn HG64.out HX.out HLG.out (hx.below BS4.out.below) (HCG.out.alloc _) HG0.out).mono ?_
  rintro e w4 ⟨⟨Dq, cq, Dr, cr, rfl, hlq, hlr, hcq, hcr, hfq, hfr⟩, hb4⟩
  clear q0 h46
  obtain ⟨lq, hlq2⟩ : ∃ l, l = L32 (x / g) := ⟨_, rfl⟩
  obtain ⟨lr, hlr2⟩ : ∃ l, l = L32 (x % g) := ⟨_, rfl⟩
  rw [← hlq2] at hlq hcq ⊢
  rw [← hlr2] at hlr hcr ⊢
  have HQ := Lib.hid hcq
  have HFQ := Lib.hid hfq
  have HZ3 := Lib.hid (show z < (w3.alloc (.cells #[.slice Dg lg cg] 32)).heap.size by rw [World.size_alloc]; have := (BS3.out.get (.head _)).2.1; omega)
  have HW4 := Lib.hid BS4.out.below.size
  have HLQ := Lib.hid hlq2
  have HLQC := Lib.hid hlq
  have HG4 := Lib.hid (((HCG.out.alloc (.cells #[.slice Dg lg cg] 32)).below hb4))
  have BS5 := Lib.hid (BS4.out.on hb4)
  obtain ⟨_, h1, k1⟩ := BS5.out.get (.tail _ (.tail _ (.head _)))
  obtain ⟨_, h6, k6⟩ := BS5.out.get (.head _)
  obtain ⟨_, h0, _⟩ := BS5.out.get (.tail _ (.tail _ (.tail _ (.head _))))
  have q1 : w4.cell? ⟨w.heap.size + 1, 0, none⟩ = some (.slice E m c') := k1.cell 0
  have q6 : w4.cell? ⟨w3.heap.size, 0, none⟩ = some (.slice Dg lg cg) := k6.cell 0
  have BS6 := (BS5.out.alloc 32 #[.slice Dq lq cq]).alloc 32 #[.slice Dr lr cr]
  simp only [World.size_alloc] at BS6
  have BS6 := Lib.hid BS6
  clear hcq hcr hfq hfr hlq2 hlr2 hb4 k1 k6 hlq hlr BS4 BS3
  unfold natv
  go_wp2_with fail
  refine (divmod_any (x := y) (y := g) hm HG64.out HY.out HLG.out (hy.below BS6.out.below) ((HG4.out.alloc _).alloc _) HG0.out).mono ?_
  rintro e w5 ⟨⟨Ds, cs, Dt, ct, rfl, hls, hlt, hcs, hct, hfs, hft⟩, hb5⟩
  clear q1 q6 h0 h1 h6
  obtain ⟨ls, hls2⟩ : ∃ l, l = L32 (y / g) := ⟨_, rfl⟩
  obtain ⟨lt, hlt2⟩ : ∃ l, l = L32 (y % g) := ⟨_, rfl⟩
  rw [← hls2] at hls hcs ⊢
  rw [← hlt2] at hlt hct ⊢
  have HS := Lib.hid hcs
  have HFS := Lib.hid hfs
  have HZ4 := Lib.hid (show z < ((w4.alloc (.cells #[.slice Dq lq cq] 32)).alloc (.cells #[.slice Dr lr cr] 32)).heap.size from (BS6.out.get (.tail _ (.tail _ (.tail _ (.head _))))).2.1)
  have HW6 := Lib.hid BS6.out.below.size
  have HLS := Lib.hid hls2
  have HLSC := Lib.hid hls
  have HQ5 := Lib.hid (((HQ.out.alloc _).alloc _).below hb5)
  have BS7 := Lib.hid (BS6.out.on hb5)
  obtain ⟨_, h8, k8⟩ := BS7.out.get (.tail _ (.head _))
  obtain ⟨_, h4, k4⟩ := BS7.out.get (.tail _ (.tail _ (.tail _ (.head _))))
  have q8 : w5.cell? ⟨w4.heap.size, 0, none⟩ = some (.slice Dq lq cq) := k8.cell 0
  have r0 : w5.cell? ⟨z, 0, none⟩ = some (.slice none 0 0) := k4.cell 0
  have r1 : w5.cell? ⟨z, 1, none⟩ = some (.slice none 0 0) := k4.cell 1
  have f0 : w5.frozen? ⟨z, 0, none⟩ = false := k4.frozen 0
  have f1 : w5.frozen? ⟨z, 1, none⟩ = false := k4.frozen 1
  have HB7 := Lib.hid BS7.out.below
  clear hcs hct hfs hft hls2 hlt2 hb5 k8 k4 hls hlt BS6 HQ HG4 HCG
  unfold natv
  go_wp2
  refine bodyPost_ret (v := .tuple #[.agg #[.slice Dq lq cq, .slice Ds ls cs], .int .i64 0]) (by simp [results, Try.results57, go_sem, r0, r1, h4]) rfl ?_
  refine ⟨?_, ends2 HB7.out hzw _ _ _ _⟩
  rw [← HGG.out]
  refine ⟨Dq, cq, Ds, cs, by rw [← HLQ.out, ← HLS.out]; rfl, by rw [← HLQ.out]; exact HLQC.out, by rw [← HLS.out]; exact HLSC.out, ?_, ?_, HFQ.out.mono HW4.out, HFS.out.mono HW6.out⟩
  · rw [← HLQ.out]
    exact (((HQ5.out.set_ HFQ.out HZ3.out _ _).set_ HFQ.out HZ3.out _ _).alloc _).alloc _
  · rw [← HLS.out]
    exact (((HS.out.set_ HFS.out HZ4.out _ _).set_ HFS.out HZ4.out _ _).alloc _).alloc _
end Fr
end Go.Proofs.Ytiflmnmkmpjecaa
