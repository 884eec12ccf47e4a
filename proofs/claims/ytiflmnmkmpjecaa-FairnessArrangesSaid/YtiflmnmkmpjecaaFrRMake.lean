/- The walks of the reference's reduce, Make and Of. -/
import Derived.Test.YtiflmnmkmpjecaaG8
import Derived.Test.YtiflmnmkmpjecaaG11
set_option linter.unusedVariables false
namespace Go.Proofs.Ytiflmnmkmpjecaa
open Go.RowKit
namespace Fr
set_option maxHeartbeats 4000000 in
set_option maxRecDepth 100000 in
theorem rreduce_any {D E : Option Addr} {n m c c' x y : Nat} {w : World} (hn : n ≤ 64) (hm : m ≤ 64) (hnx : n = L32 x) (hmy : m = L32 y) (hx : Cells w D n (Lm (d32 x))) (hy : Cells w E m (Lm (d32 y))) (hy0 : 0 < y) :
    Calls Try.prog 47 #[natv D n c, natv E m c'] w fun e w' => Res w.heap.size w' e (x / Nat.gcd x y) (y / Nat.gcd x y) ∧ Below w.heap.size w w' := by
  have hm0 : 0 < m := by
    rcases Nat.eq_zero_or_pos m with h | h
    · have h0 : y = 0 := L32_zero.1 (hmy.symm.trans h)
      omega
    · exact h
  have hmz : ((m : Int) == 0) = false := by simp; omega
  have HX := Lib.hid hnx
  have HY := Lib.hid hmy
  obtain ⟨g, hg⟩ : ∃ g, g = Nat.gcd x y := ⟨_, rfl⟩
  obtain ⟨lg, hlg2⟩ : ∃ l, l = L32 g := ⟨_, rfl⟩
  have HG64 : Hid (lg ≤ 64) := by rw [hlg2, hg]; exact Lib.hid (gcd_len (x := x) (y := y) (by omega) (by omega))
  have HG0 : Hid (0 < g) := by rw [hg]; exact Lib.hid (Nat.gcd_pos_of_pos_right x hy0)
  have HGG := Lib.hid hg
  have HLG := Lib.hid hlg2
  clear hg hlg2
  clear hnx hmy
  have BS0 := Lib.hid (boxes w (.slice D n c) (.slice E m c'))
  unfold natv
  go_enter Try.func47, Try.ntmps47
  go_wp2_with fail
  refine (refGCD_any (x := x) (y := y) hn hm HX.out HY.out (hx.below BS0.out.below) (hy.below BS0.out.below)).mono ?_
  rintro e w3 ⟨Dg, cg, rfl, hlg, hcg, hfg, hb3⟩
  rw [← HGG.out, ← HLG.out] at hlg hcg ⊢
  have bs3 := BS0.out.on hb3
  obtain ⟨z, hz⟩ : ∃ z, z = w.heap.size + 1 + 1 := ⟨_, rfl⟩
  rw [← hz] at bs3 ⊢
  have hzw : w.heap.size ≤ z := by omega
  have BS3 := Lib.hid bs3
  clear bs3 hz
  have HCG := Lib.hid hcg
  have HLC := Lib.hid hlg
  have HFG := Lib.hid hfg
  clear hcg hlg hfg hb3 BS0
  have q0 : w3.cell? ⟨w.heap.size, 0, none⟩ = some (.slice D n c) := (BS3.out.get (.tail _ (.tail _ (.head _)))).2.2.cell 0
  unfold natv
  have h46 := (BS3.out.get (.tail _ (.tail _ (.head _)))).2.1
  have BS4 := Lib.hid (BS3.out.alloc 32 #[.slice Dg lg cg])
  go_wp2_with fail
  refine (refDivmod_any (x := x) (y := g) hn HG64.out HX.out HLG.out (hx.below BS4.out.below) (HCG.out.alloc _) HG0.out).mono ?_
  rintro e w4 ⟨⟨Dq, cq, Dr, cr, rfl, hlq, hlr, hcq, hcr, hfq, hfr⟩, hb4⟩
  clear q0 h46
  obtain ⟨lq, hlq2⟩ : ∃ l, l = L32 (x / g) := ⟨_, rfl⟩
  obtain ⟨lr, hlr2⟩ : ∃ l, l = L32 (x % g) := ⟨_, rfl⟩
  rw [← hlq2] at hlq hcq ⊢
  rw [← hlr2] at hlr hcr ⊢
  have HQ := Lib.hid hcq
  have HFQ := Lib.hid hfq
  have HZ3 := Lib.hid (show z < (w3.alloc (.cells #[.slice Dg lg cg] 32)).heap.size by rw [World.size_alloc]; have := (BS3.out.get (.head _)).2.1; omega)
  have HW4 := Lib.hid BS4.out.below.size
  have HLQ := Lib.hid hlq2
  have HLQC := Lib.hid hlq
  have HG4 := Lib.hid (((HCG.out.alloc (.cells #[.slice Dg lg cg] 32)).below hb4))
  have BS5 := Lib.hid (BS4.out.on hb4)
  obtain ⟨_, h1, k1⟩ := BS5.out.get (.tail _ (.tail _ (.head _)))
  obtain ⟨_, h6, k6⟩ := BS5.out.get (.head _)
  obtain ⟨_, h0, _⟩ := BS5.out.get (.tail _ (.tail _ (.tail _ (.head _))))
  have q1 : w4.cell? ⟨w.heap.size + 1, 0, none⟩ = some (.slice E m c') := k1.cell 0
  have q6 : w4.cell? ⟨w3.heap.size, 0, none⟩ = some (.slice Dg lg cg) := k6.cell 0
  have BS6 := (BS5.out.alloc 32 #[.slice Dq lq cq]).alloc 32 #[.slice Dr lr cr]
  simp only [World.size_alloc] at BS6
  have BS6 := Lib.hid BS6
  clear hcq hcr hfq hfr hlq2 hlr2 hb4 k1 k6 hlq hlr BS4 BS3
  unfold natv
  go_wp2_with fail
  refine (refDivmod_any (x := y) (y := g) hm HG64.out HY.out HLG.out (hy.below BS6.out.below) ((HG4.out.alloc _).alloc _) HG0.out).mono ?_
  rintro e w5 ⟨⟨Ds, cs, Dt, ct, rfl, hls, hlt, hcs, hct, hfs, hft⟩, hb5⟩
  clear q1 q6 h0 h1 h6
  obtain ⟨ls, hls2⟩ : ∃ l, l = L32 (y / g) := ⟨_, rfl⟩
  obtain ⟨lt, hlt2⟩ : ∃ l, l = L32 (y % g) := ⟨_, rfl⟩
  rw [← hls2] at hls hcs ⊢
  rw [← hlt2] at hlt hct ⊢
  have HS := Lib.hid hcs
  have HFS := Lib.hid hfs
  have HZ4 := Lib.hid (show z < ((w4.alloc (.cells #[.slice Dq lq cq] 32)).alloc (.cells #[.slice Dr lr cr] 32)).heap.size from (BS6.out.get (.tail _ (.tail _ (.tail _ (.head _))))).2.1)
  have HW6 := Lib.hid BS6.out.below.size
  have HLS := Lib.hid hls2
  have HLSC := Lib.hid hls
  have HQ5 := Lib.hid (((HQ.out.alloc _).alloc _).below hb5)
  have BS7 := Lib.hid (BS6.out.on hb5)
  obtain ⟨_, h8, k8⟩ := BS7.out.get (.tail _ (.head _))
  obtain ⟨_, h4, k4⟩ := BS7.out.get (.tail _ (.tail _ (.tail _ (.head _))))
  have q8 : w5.cell? ⟨w4.heap.size, 0, none⟩ = some (.slice Dq lq cq) := k8.cell 0
  have r0 : w5.cell? ⟨z, 0, none⟩ = some (.slice none 0 0) := k4.cell 0
  have r1 : w5.cell? ⟨z, 1, none⟩ = some (.slice none 0 0) := k4.cell 1
  have f0 : w5.frozen? ⟨z, 0, none⟩ = false := k4.frozen 0
  have f1 : w5.frozen? ⟨z, 1, none⟩ = false := k4.frozen 1
  have HB7 := Lib.hid BS7.out.below
  clear hcs hct hfs hft hls2 hlt2 hb5 k8 k4 hls hlt BS6 HQ HG4 HCG
  unfold natv
  go_wp2
  refine bodyPost_ret (v := .tuple #[.agg #[.slice Dq lq cq, .slice Ds ls cs], .int .i64 0]) (by simp [results, Try.results47, go_sem, r0, r1, h4]) rfl ?_
  refine ⟨?_, ends2 HB7.out hzw _ _ _ _⟩
  rw [← HGG.out]
  refine ⟨Dq, cq, Ds, cs, by rw [← HLQ.out, ← HLS.out]; rfl, by rw [← HLQ.out]; exact HLQC.out, by rw [← HLS.out]; exact HLSC.out, ?_, ?_, HFQ.out.mono HW4.out, HFS.out.mono HW6.out⟩
  · rw [← HLQ.out]
    exact (((HQ5.out.set_ HFQ.out HZ3.out _ _).set_ HFQ.out HZ3.out _ _).alloc _).alloc _
  · rw [← HLS.out]
    exact (((HS.out.set_ HFS.out HZ4.out _ _).set_ HFS.out HZ4.out _ _).alloc _).alloc _
set_option maxHeartbeats 4000000 in
set_option maxRecDepth 100000 in
theorem rmake_any {D E : Option Addr} {n m c c' x y : Nat} {w : World} (hn : n ≤ 64) (hm : m ≤ 64) (hnx : n = L32 x) (hmy : m = L32 y) (hx : Cells w D n (Lm (d32 x))) (hy : Cells w E m (Lm (d32 y))) (hy0 : 0 < y) :
    Calls Try.prog 31 #[natv D n c, natv E m c'] w fun e w' => Res w.heap.size w' e (x / Nat.gcd x y) (y / Nat.gcd x y) ∧ Below w.heap.size w w' := by
  have hvx := Lib.hid (vd_true hn hnx)
  have hvy := Lib.hid (vd_true hm hmy)
  have hm0 : 0 < m := by
    rcases Nat.eq_zero_or_pos m with h | h
    · have h0 : y = 0 := L32_zero.1 (hmy.symm.trans h)
      omega
    · exact h
  have hmz : ((m : Int) == 0) = false := by simp; omega
  have HX := Lib.hid hnx
  have HY := Lib.hid hmy
  have HY0 := Lib.hid hy0
  clear hnx hmy hy0
  have BS0 := Lib.hid (boxes w (.slice D n c) (.slice E m c'))
  unfold natv
  go_enter Try.func31, Try.ntmps31
  go_wp2_with fail
  refine (rvalid_is (by omega) (hx.below BS0.out.below) hvx.out).mono ?_
  rintro e w1 ⟨rfl, hb1⟩
  have BS1 := Lib.hid (BS0.out.on hb1)
  clear hb1 BS0
  have q1 : w1.cell? ⟨w.heap.size + 1, 0, none⟩ = some (.slice E m c') := (BS1.out.get (.tail _ (.head _))).2.2.cell 0
  go_wp2_with fail
  refine (rvalid_is (by omega) (hy.below BS1.out.below) hvy.out).mono ?_
  rintro e w2 ⟨rfl, hb1⟩
  have BS2 := Lib.hid (BS1.out.on hb1)
  clear hb1 BS1 q1
  have q0 : w2.cell? ⟨w.heap.size, 0, none⟩ = some (.slice D n c) := (BS2.out.get (.tail _ (.tail _ (.head _)))).2.2.cell 0
  have q1 : w2.cell? ⟨w.heap.size + 1, 0, none⟩ = some (.slice E m c') := (BS2.out.get (.tail _ (.head _))).2.2.cell 0
  go_wp2_with fail
  refine (rreduce_any (x := x) (y := y) hn hm HX.out HY.out (hx.below BS2.out.below) (hy.below BS2.out.below) HY0.out).mono ?_
  rintro e w4 ⟨⟨Da, ca, Db, cb, rfl, hla, hlb, hca, hcb, hfa, hfb⟩, hb4⟩
  have HZ6 := Lib.hid (BS2.out.get (.head _)).2.1
  have HW6 := Lib.hid BS2.out.below.size
  have BS4 := Lib.hid (BS2.out.on hb4)
  obtain ⟨l1, hl1⟩ : ∃ l, l = L32 (x / Nat.gcd x y) := ⟨_, rfl⟩
  obtain ⟨l2, hl2⟩ : ∃ l, l = L32 (y / Nat.gcd x y) := ⟨_, rfl⟩
  rw [← hl1] at hla hca ⊢
  rw [← hl2] at hlb hcb ⊢
  have HL1 := Lib.hid hl1
  have HL2 := Lib.hid hl2
  have HCA := Lib.hid hca
  have HCB := Lib.hid hcb
  have HFA := Lib.hid hfa
  have HFB := Lib.hid hfb
  obtain ⟨_, lz, kz⟩ := BS4.out.get (.head _)
  obtain ⟨z, hz⟩ : ∃ z, z = w.heap.size + 1 + 1 := ⟨_, rfl⟩
  have HZW := Lib.hid (show w.heap.size ≤ z by omega)
  have HZ7 : Hid (z < w2.heap.size) := by rw [hz]; exact HZ6
  rw [← hz] at kz lz ⊢
  have s0 : w4.cell? ⟨z, 0, none⟩ = some (.slice none 0 0) := kz.cell 0
  have s1 : w4.cell? ⟨z, 1, none⟩ = some (.slice none 0 0) := kz.cell 1
  have f0 : w4.frozen? ⟨z, 0, none⟩ = false := kz.frozen 0
  have f1 : w4.frozen? ⟨z, 1, none⟩ = false := kz.frozen 1
  have HB7 := Lib.hid BS4.out.below
  clear hl1 hl2 hca hcb hfa hfb kz hz hb4 q0 q1
  unfold fv
  go_wp2
  refine bodyPost_ret (v := .tuple #[fv Da l1 ca Db l2 cb, .int .i64 0]) (by unfold fv; simp [results, Try.results31, go_sem, s0, s1]) rfl ?_
  refine ⟨⟨Da, ca, Db, cb, by rw [← HL1.out, ← HL2.out], by rw [← HL1.out]; exact hla, by rw [← HL2.out]; exact hlb, ?_, ?_, HFA.out.mono HW6.out, HFB.out.mono HW6.out⟩, ?_⟩
  · rw [← HL1.out]
    exact (HCA.out.set_ HFA.out HZ7.out _ _).set_ HFA.out HZ7.out _ _
  · rw [← HL2.out]
    exact (HCB.out.set_ HFB.out HZ7.out _ _).set_ HFB.out HZ7.out _ _
  · repeat' (first | exact HB7.out | refine bl_alloc ?_ _ | refine bse ?_ HZW.out _ _ | refine Below.drew ?_)
set_option maxHeartbeats 4000000 in
theorem rmake_bad {D E : Option Addr} {n m c c' : Nat} {f g : Nat → Nat} {w : World} (hn : n ≤ 9223372036854775807) (hm : m ≤ 9223372036854775807) (hx : Cells w D n (Lm f)) (hy : Cells w E m (Lm g)) (hv : vd n f = false ∨ vd n f = true ∧ vd m g = false) :
    Calls Try.prog 31 #[natv D n c, natv E m c'] w fun e w' => Err e 2 ∧ Below w.heap.size w w' := by
  have BS0 := Lib.hid (boxes w (.slice D n c) (.slice E m c'))
  unfold natv
  rcases hv with hv | ⟨hv, hv2⟩
  · have HV := Lib.hid hv
    clear hv
    go_enter Try.func31, Try.ntmps31
    go_wp2_with fail
    refine (rvalid_is hn (hx.below BS0.out.below) HV.out).mono ?_
    rintro e w1 ⟨rfl, hb1⟩
    have bs := BS0.out.on hb1
    obtain ⟨z, hz⟩ : ∃ z, z = w.heap.size + 1 + 1 := ⟨_, rfl⟩
    rw [← hz] at bs ⊢
    have hzw : w.heap.size ≤ z := by omega
    obtain ⟨_, lz, kz⟩ := bs.get (.head _)
    have HB := Lib.hid bs.below
    have r0 : w1.cell? ⟨z, 0, none⟩ = some (.slice none 0 0) := kz.cell 0
    have r1 : w1.cell? ⟨z, 1, none⟩ = some (.slice none 0 0) := kz.cell 1
    have f0 : w1.frozen? ⟨z, 0, none⟩ = false := kz.frozen 0
    have f1 : w1.frozen? ⟨z, 1, none⟩ = false := kz.frozen 1
    clear bs kz hz hb1
    go_wp2
    refine bodyPost_ret (v := .tuple #[fv none 0 0 none 0 0, .int .i64 2]) (by unfold fv; simp [results, Try.results31, go_sem, r0, r1]) rfl ?_
    refine ⟨rfl, ?_⟩
    repeat' (first | exact HB.out | refine bl_alloc ?_ _ | refine bse ?_ (by assumption) _ _ | refine Below.drew ?_)
  · have HV := Lib.hid hv
    have HV2 := Lib.hid hv2
    clear hv hv2
    go_enter Try.func31, Try.ntmps31
    go_wp2_with fail
    refine (rvalid_is hn (hx.below BS0.out.below) HV.out).mono ?_
    rintro e w1 ⟨rfl, hb1⟩
    have BS1 := Lib.hid (BS0.out.on hb1)
    have q1 : w1.cell? ⟨w.heap.size + 1, 0, none⟩ = some (.slice E m c') := (BS1.out.get (.tail _ (.head _))).2.2.cell 0
    clear hb1 BS0
    go_wp2_with fail
    refine (rvalid_is hm (hy.below BS1.out.below) HV2.out).mono ?_
    rintro e w2 ⟨rfl, hb1⟩
    clear q1
    have bs := BS1.out.on hb1
    obtain ⟨z, hz⟩ : ∃ z, z = w.heap.size + 1 + 1 := ⟨_, rfl⟩
    rw [← hz] at bs ⊢
    have hzw : w.heap.size ≤ z := by omega
    obtain ⟨_, lz, kz⟩ := bs.get (.head _)
    have HB := Lib.hid bs.below
    have r0 : w2.cell? ⟨z, 0, none⟩ = some (.slice none 0 0) := kz.cell 0
    have r1 : w2.cell? ⟨z, 1, none⟩ = some (.slice none 0 0) := kz.cell 1
    have f0 : w2.frozen? ⟨z, 0, none⟩ = false := kz.frozen 0
    have f1 : w2.frozen? ⟨z, 1, none⟩ = false := kz.frozen 1
    clear bs kz hz hb1
    go_wp2
    refine bodyPost_ret (v := .tuple #[fv none 0 0 none 0 0, .int .i64 2]) (by unfold fv; simp [results, Try.results31, go_sem, r0, r1]) rfl ?_
    refine ⟨rfl, ?_⟩
    repeat' (first | exact HB.out | refine bl_alloc ?_ _ | refine bse ?_ (by assumption) _ _ | refine Below.drew ?_)
set_option maxHeartbeats 4000000 in
theorem rmake_zero {D E : Option Addr} {n c c' : Nat} {f : Nat → Nat} {w : World} (hn : n ≤ 9223372036854775807) (hx : Cells w D n (Lm f)) (hv : vd n f = true) :
    Calls Try.prog 31 #[natv D n c, natv E 0 c'] w fun e w' => Err e 10 ∧ Below w.heap.size w w' := by
  have BS0 := Lib.hid (boxes w (.slice D n c) (.slice E 0 c'))
  unfold natv
  have HV := Lib.hid hv
  have HV2 := Lib.hid (show vd 0 (fun _ => 0) = true from rfl)
  clear hv
  go_enter Try.func31, Try.ntmps31
  go_wp2_with fail
  refine (rvalid_is hn (hx.below BS0.out.below) HV.out).mono ?_
  rintro e w1 ⟨rfl, hb1⟩
  have BS1 := Lib.hid (BS0.out.on hb1)
  have q1 : w1.cell? ⟨w.heap.size + 1, 0, none⟩ = some (.slice E 0 c') := (BS1.out.get (.tail _ (.head _))).2.2.cell 0
  clear hb1 BS0
  go_wp2_with fail
  refine (rvalid_is (n := 0) (f := fun _ => 0) (by omega) Cells.nil HV2.out).mono ?_
  rintro e w2 ⟨rfl, hb1⟩
  clear q1
  have bs := BS1.out.on hb1
  obtain ⟨z, hz⟩ : ∃ z, z = w.heap.size + 1 + 1 := ⟨_, rfl⟩
  rw [← hz] at bs ⊢
  have hzw : w.heap.size ≤ z := by omega
  obtain ⟨_, lz, kz⟩ := bs.get (.head _)
  obtain ⟨_, l1, k1⟩ := bs.get (.tail _ (.head _))
  have HB := Lib.hid bs.below
  have q1 : w2.cell? ⟨w.heap.size + 1, 0, none⟩ = some (.slice E 0 c') := k1.cell 0
  have r0 : w2.cell? ⟨z, 0, none⟩ = some (.slice none 0 0) := kz.cell 0
  have r1 : w2.cell? ⟨z, 1, none⟩ = some (.slice none 0 0) := kz.cell 1
  have f0 : w2.frozen? ⟨z, 0, none⟩ = false := kz.frozen 0
  have f1 : w2.frozen? ⟨z, 1, none⟩ = false := kz.frozen 1
  clear bs kz hz hb1 k1
  go_wp2
  refine bodyPost_ret (v := .tuple #[fv none 0 0 none 0 0, .int .i64 10]) (by unfold fv; simp [results, Try.results31, go_sem, r0, r1]) rfl ?_
  refine ⟨rfl, ?_⟩
  repeat' (first | exact HB.out | refine bl_alloc ?_ _ | refine bse ?_ (by assumption) _ _ | refine Below.drew ?_)
set_option maxHeartbeats 4000000 in
theorem rof_neg (w : World) {x y : Int} (h : x < 0 ∨ 0 ≤ x ∧ y < 0) :
    Calls Try.prog 28 #[.int .i64 x, .int .i64 y] w fun e w' => Err e 2 ∧ Below w.heap.size w w' := by
  have HB := Lib.hid (box0 w).below
  obtain ⟨z, hz⟩ : ∃ z, z = w.heap.size := ⟨_, rfl⟩
  have hzw : w.heap.size ≤ z := by omega
  clear hz
  rcases h with h | ⟨h, h2⟩
  all_goals
    go_enter Try.func28, Try.ntmps28
    go_wp2
    refine bodyPost_ret (v := .tuple #[fv none 0 0 none 0 0, .int .i64 2]) (by unfold fv; simp [results, Try.results28, go_sem]) rfl ?_
    refine ⟨rfl, ?_⟩
    repeat' (first | exact HB.out | refine bl_alloc ?_ _ | refine bse ?_ (by first | assumption | exact Nat.le_refl _) _ _ | refine Below.drew ?_)
set_option maxHeartbeats 4000000 in
theorem rof_ok (w : World) {x y : Nat} (hx : x ≤ 9223372036854775807) (hy : y ≤ 9223372036854775807) (hy0 : 0 < y) :
    Calls Try.prog 28 #[.int .i64 (x : Int), .int .i64 (y : Int)] w fun e w' => Res w.heap.size w' e (x / Nat.gcd x y) (y / Nat.gcd x y) ∧ Below w.heap.size w w' := by
  have BS0 := Lib.hid (box0 w)
  have k1 : ((x : Int) < 0) = False := eq_false (by omega)
  have k2 : ((y : Int) < 0) = False := eq_false (by omega)
  have k3 : IntKind.u64.wrap (x : Int) = (x : Int) := IntWalk.u64_in _ (by omega)
  have k4 : IntKind.u64.wrap (y : Int) = (y : Int) := IntWalk.u64_in _ (by omega)
  obtain ⟨lx, hlx⟩ : ∃ l, l = L32 x := ⟨_, rfl⟩
  obtain ⟨ly, hly⟩ : ∃ l, l = L32 y := ⟨_, rfl⟩
  have HLX := Lib.hid hlx
  have HLY := Lib.hid hly
  have hlx64 : lx ≤ 64 := by rw [hlx]; exact Nat.le_trans (fit32_le (N := x) (n := 2) (Nat.lt_of_le_of_lt hx (by decide))) (by omega)
  have hly64 : ly ≤ 64 := by rw [hly]; exact Nat.le_trans (fit32_le (N := y) (n := 2) (Nat.lt_of_le_of_lt hy (by decide))) (by omega)
  have HY0 := Lib.hid hy0
  have HNX := Lib.hid (show x < 18446744073709551616 by omega)
  have HNY := Lib.hid (show y < 18446744073709551616 by omega)
  clear hlx hly hx hy hy0
  go_enter Try.func28, Try.ntmps28
  go_wp2_with fail
  (with_reducible refine (refOf_any x HNX.out _).mono ?_)
  rintro e w1 ⟨Dx, cx, rfl, _, hcx, hb1⟩
  rw [← HLX.out] at hcx ⊢
  have BS1 := Lib.hid (BS0.out.on hb1)
  have HCX := Lib.hid hcx
  clear hcx hb1 BS0
  go_wp2_with fail
  (with_reducible refine (refOf_any y HNY.out _).mono ?_)
  rintro e w2 ⟨Dy, cy, rfl, _, hcy, hb2⟩
  rw [← HLY.out] at hcy ⊢
  have BS2 := Lib.hid (BS1.out.on hb2)
  have HCX2 := Lib.hid (HCX.out.below hb2)
  have HCY := Lib.hid hcy
  clear hcy hb2 BS1
  go_wp2_with fail
  refine (rmake_any (x := x) (y := y) hlx64 hly64 HLX.out HLY.out HCX2.out HCY.out HY0.out).mono ?_
  rintro e w4 ⟨⟨Da, ca, Db, cb, rfl, hla, hlb, hca, hcb, hfa, hfb⟩, hb4⟩
  have HZ6 := Lib.hid (BS2.out.get (.head _)).2.1
  have HW6 := Lib.hid BS2.out.below.size
  have BS4 := Lib.hid (BS2.out.on hb4)
  obtain ⟨l1, hl1⟩ : ∃ l, l = L32 (x / Nat.gcd x y) := ⟨_, rfl⟩
  obtain ⟨l2, hl2⟩ : ∃ l, l = L32 (y / Nat.gcd x y) := ⟨_, rfl⟩
  rw [← hl1] at hla hca ⊢
  rw [← hl2] at hlb hcb ⊢
  have HL1 := Lib.hid hl1
  have HL2 := Lib.hid hl2
  have HCA := Lib.hid hca
  have HCB := Lib.hid hcb
  have HFA := Lib.hid hfa
  have HFB := Lib.hid hfb
  obtain ⟨_, lz, kz⟩ := BS4.out.get (.head _)
  obtain ⟨z, hz⟩ : ∃ z, z = w.heap.size := ⟨_, rfl⟩
  have HZW := Lib.hid (show w.heap.size ≤ z by omega)
  have HZ7 : Hid (z < w2.heap.size) := by rw [hz]; exact HZ6
  rw [← hz] at kz lz
  have s0 : w4.cell? ⟨z, 0, none⟩ = some (.slice none 0 0) := kz.cell 0
  have s1 : w4.cell? ⟨z, 1, none⟩ = some (.slice none 0 0) := kz.cell 1
  have f0 : w4.frozen? ⟨z, 0, none⟩ = false := kz.frozen 0
  have f1 : w4.frozen? ⟨z, 1, none⟩ = false := kz.frozen 1
  have HB7 := Lib.hid BS4.out.below
  rw [show (Value.pointer (some ⟨w.heap.size, 0, none⟩)) = .pointer (some ⟨z, 0, none⟩) by rw [hz]]
  clear hl1 hl2 hca hcb hfa hfb kz hz hb4
  unfold fv
  go_wp2
  refine bodyPost_ret (v := .tuple #[fv Da l1 ca Db l2 cb, .int .i64 0]) (by unfold fv; simp [results, Try.results28, go_sem, s0, s1]) rfl ?_
  refine ⟨⟨Da, ca, Db, cb, by rw [← HL1.out, ← HL2.out], by rw [← HL1.out]; exact hla, by rw [← HL2.out]; exact hlb, ?_, ?_, HFA.out.mono HW6.out, HFB.out.mono HW6.out⟩, ?_⟩
  · rw [← HL1.out]
    exact (HCA.out.set_ HFA.out HZ7.out _ _).set_ HFA.out HZ7.out _ _
  · rw [← HL2.out]
    exact (HCB.out.set_ HFB.out HZ7.out _ _).set_ HFB.out HZ7.out _ _
  · repeat' (first | exact HB7.out | refine bl_alloc ?_ _ | refine bse ?_ HZW.out _ _ | refine Below.drew ?_)
set_option maxHeartbeats 4000000 in
theorem rof_zero (w : World) {x : Nat} (hx : x ≤ 9223372036854775807) :
    Calls Try.prog 28 #[.int .i64 (x : Int), .int .i64 0] w fun e w' => Err e 10 ∧ Below w.heap.size w w' := by
  have BS0 := Lib.hid (box0 w)
  have k1 : ((x : Int) < 0) = False := eq_false (by omega)
  have k3 : IntKind.u64.wrap (x : Int) = (x : Int) := IntWalk.u64_in _ (by omega)
  obtain ⟨lx, hlx⟩ : ∃ l, l = L32 x := ⟨_, rfl⟩
  have HLX := Lib.hid hlx
  have hlx64 : lx ≤ 64 := by rw [hlx]; exact Nat.le_trans (fit32_le (N := x) (n := 2) (Nat.lt_of_le_of_lt hx (by decide))) (by omega)
  have HNX := Lib.hid (show x < 18446744073709551616 by omega)
  have HVX := Lib.hid (vd_true hlx64 hlx)
  have HL0 := Lib.hid (show L32 0 = 0 from L32_zero.2 rfl)
  clear hlx hx
  go_enter Try.func28, Try.ntmps28
  go_wp2_with fail
  (with_reducible refine (refOf_any x HNX.out _).mono ?_)
  rintro e w1 ⟨Dx, cx, rfl, _, hcx, hb1⟩
  rw [← HLX.out] at hcx ⊢
  have BS1 := Lib.hid (BS0.out.on hb1)
  have HCX := Lib.hid hcx
  clear hcx hb1 BS0
  go_wp2_with fail
  refine (refOf_any 0 (by omega) _).mono ?_
  rintro e w2 ⟨Dy, cy, rfl, _, hcy, hb2⟩
  rw [HL0.out] at hcy ⊢
  have BS2 := Lib.hid (BS1.out.on hb2)
  have HCX2 := Lib.hid (HCX.out.below hb2)
  clear hcy hb2 BS1
  go_wp2_with fail
  refine (rmake_zero (by omega) HCX2.out HVX.out).mono ?_
  rintro e w4 ⟨rfl, hb4⟩
  have BS4 := Lib.hid (BS2.out.on hb4)
  obtain ⟨_, lz, kz⟩ := BS4.out.get (.head _)
  obtain ⟨z, hz⟩ : ∃ z, z = w.heap.size := ⟨_, rfl⟩
  have HZW := Lib.hid (show w.heap.size ≤ z by omega)
  rw [← hz] at kz lz
  have s0 : w4.cell? ⟨z, 0, none⟩ = some (.slice none 0 0) := kz.cell 0
  have s1 : w4.cell? ⟨z, 1, none⟩ = some (.slice none 0 0) := kz.cell 1
  have f0 : w4.frozen? ⟨z, 0, none⟩ = false := kz.frozen 0
  have f1 : w4.frozen? ⟨z, 1, none⟩ = false := kz.frozen 1
  have HB7 := Lib.hid BS4.out.below
  rw [show (Value.pointer (some ⟨w.heap.size, 0, none⟩)) = .pointer (some ⟨z, 0, none⟩) by rw [hz]]
  clear kz hz hb4
  unfold fv
  go_wp2
  refine bodyPost_ret (v := .tuple #[fv none 0 0 none 0 0, .int .i64 10]) (by unfold fv; simp [results, Try.results28, go_sem, s0, s1]) rfl ?_
  refine ⟨rfl, ?_⟩
  repeat' (first | exact HB7.out | refine bl_alloc ?_ _ | refine bse ?_ HZW.out _ _ | refine Below.drew ?_)
end Fr
end Go.Proofs.Ytiflmnmkmpjecaa
