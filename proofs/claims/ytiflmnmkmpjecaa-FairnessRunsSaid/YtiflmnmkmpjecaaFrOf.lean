/- The walks of frac.Make where it refuses, and of frac.Of. -/
import Derived.Test.YtiflmnmkmpjecaaFrDec
set_option linter.unusedVariables false
namespace Go.Proofs.Ytiflmnmkmpjecaa
open Go.RowKit
namespace Fr
set_option maxHeartbeats 4000000 in
theorem make_bad {D E : Option Addr} {n m c c' : Nat} {f g : Nat → Nat} {w : World} (hn : n ≤ 9223372036854775807) (hm : m ≤ 9223372036854775807) (hx : Cells w D n (Lm f)) (hy : Cells w E m (Lm g)) (hv : vd n f = false ∨ vd n f = true ∧ vd m g = false) :
    Calls Try.prog 57 #[natv D n c, natv E m c'] w fun e w' => Err e 2 ∧ Below w.heap.size w w' := by
  have BS0 := Lib.hid (boxes w (.slice D n c) (.slice E m c'))
  unfold natv
  rcases hv with hv | ⟨hv, hv2⟩
  · have HV := Lib.hid hv
    clear hv
    go_enter Try.func57, Try.ntmps57
    go_wp2_with fail
    refine (nvalid_is hn (hx.below BS0.out.below) HV.out).mono ?_
    rintro e w1 ⟨rfl, hb1⟩
    have bs := BS0.out.on hb1
    obtain ⟨z, hz⟩ : ∃ z, z = w.heap.size + 1 + 1 := ⟨_, rfl⟩
    rw [← hz] at bs ⊢
    have hzw : w.heap.size ≤ z := by omega
    obtain ⟨_, lz, kz⟩ := bs.get (.head _)
    have HB := Lib.hid bs.below
    have r0 : w1.cell? ⟨z, 0, none⟩ = some (.slice none 0 0) := kz.cell 0
    have r1 : w1.cell? ⟨z, 1, none⟩ = some (.slice none 0 0) := kz.cell 1
    have f0 : w1.frozen? ⟨z, 0, none⟩ = false := kz.frozen 0
    have f1 : w1.frozen? ⟨z, 1, none⟩ = false := kz.frozen 1
    clear bs kz hz hb1
    go_wp2
    refine bodyPost_ret (v := .tuple #[fv none 0 0 none 0 0, .int .i64 2]) (by unfold fv; simp [results, Try.results57, go_sem, r0, r1]) rfl ?_
    refine ⟨rfl, ?_⟩
    repeat' (first | exact HB.out | refine bl_alloc ?_ _ | refine bse ?_ (by assumption) _ _ | refine Below.drew ?_)
  · have HV := Lib.hid hv
    have HV2 := Lib.hid hv2
    clear hv hv2
    go_enter Try.func57, Try.ntmps57
    go_wp2_with fail
    refine (nvalid_is hn (hx.below BS0.out.below) HV.out).mono ?_
    rintro e w1 ⟨rfl, hb1⟩
    have BS1 := Lib.hid (BS0.out.on hb1)
    have q1 : w1.cell? ⟨w.heap.size + 1, 0, none⟩ = some (.slice E m c') := (BS1.out.get (.tail _ (.head _))).2.2.cell 0
    clear hb1 BS0
    go_wp2_with fail
    refine (nvalid_is hm (hy.below BS1.out.below) HV2.out).mono ?_
    rintro e w2 ⟨rfl, hb1⟩
    clear q1
    have bs := BS1.out.on hb1
    obtain ⟨z, hz⟩ : ∃ z, z = w.heap.size + 1 + 1 := ⟨_, rfl⟩
    rw [← hz] at bs ⊢
    have hzw : w.heap.size ≤ z := by omega
    obtain ⟨_, lz, kz⟩ := bs.get (.head _)
    have HB := Lib.hid bs.below
    have r0 : w2.cell? ⟨z, 0, none⟩ = some (.slice none 0 0) := kz.cell 0
    have r1 : w2.cell? ⟨z, 1, none⟩ = some (.slice none 0 0) := kz.cell 1
    have f0 : w2.frozen? ⟨z, 0, none⟩ = false := kz.frozen 0
    have f1 : w2.frozen? ⟨z, 1, none⟩ = false := kz.frozen 1
    clear bs kz hz hb1
    go_wp2
    refine bodyPost_ret (v := .tuple #[fv none 0 0 none 0 0, .int .i64 2]) (by unfold fv; simp [results, Try.results57, go_sem, r0, r1]) rfl ?_
    refine ⟨rfl, ?_⟩
    repeat' (first | exact HB.out | refine bl_alloc ?_ _ | refine bse ?_ (by assumption) _ _ | refine Below.drew ?_)
set_option maxHeartbeats 4000000 in
theorem make_zero {D E : Option Addr} {n c c' : Nat} {f : Nat → Nat} {w : World} (hn : n ≤ 9223372036854775807) (hx : Cells w D n (Lm f)) (hv : vd n f = true) :
    Calls Try.prog 57 #[natv D n c, natv E 0 c'] w fun e w' => Err e 10 ∧ Below w.heap.size w w' := by
  have BS0 := Lib.hid (boxes w (.slice D n c) (.slice E 0 c'))
  unfold natv
  have HV := Lib.hid hv
  have HV2 := Lib.hid (show vd 0 (fun _ => 0) = true from rfl)
  clear hv
  go_enter Try.func57, Try.ntmps57
  go_wp2_with fail
  refine (nvalid_is hn (hx.below BS0.out.below) HV.out).mono ?_
  rintro e w1 ⟨rfl, hb1⟩
  have BS1 := Lib.hid (BS0.out.on hb1)
  have q1 : w1.cell? ⟨w.heap.size + 1, 0, none⟩ = some (.slice E 0 c') := (BS1.out.get (.tail _ (.head _))).2.2.cell 0
  clear hb1 BS0
  go_wp2_with fail
  refine (nvalid_is (n := 0) (f := fun _ => 0) (by omega) Cells.nil HV2.out).mono ?_
  rintro e w2 ⟨rfl, hb1⟩
  clear q1
  have bs := BS1.out.on hb1
  obtain ⟨z, hz⟩ : ∃ z, z = w.heap.size + 1 + 1 := ⟨_, rfl⟩
  rw [← hz] at bs ⊢
  have hzw : w.heap.size ≤ z := by omega
  obtain ⟨_, lz, kz⟩ := bs.get (.head _)
  obtain ⟨_, l1, k1⟩ := bs.get (.tail _ (.head _))
  have HB := Lib.hid bs.below
  have q1 : w2.cell? ⟨w.heap.size + 1, 0, none⟩ = some (.slice E 0 c') := k1.cell 0
  have r0 : w2.cell? ⟨z, 0, none⟩ = some (.slice none 0 0) := kz.cell 0
  have r1 : w2.cell? ⟨z, 1, none⟩ = some (.slice none 0 0) := kz.cell 1
  have f0 : w2.frozen? ⟨z, 0, none⟩ = false := kz.frozen 0
  have f1 : w2.frozen? ⟨z, 1, none⟩ = false := kz.frozen 1
  clear bs kz hz hb1 k1
  go_wp2
  refine bodyPost_ret (v := .tuple #[fv none 0 0 none 0 0, .int .i64 10]) (by unfold fv; simp [results, Try.results57, go_sem, r0, r1]) rfl ?_
  refine ⟨rfl, ?_⟩
  repeat' (first | exact HB.out | refine bl_alloc ?_ _ | refine bse ?_ (by assumption) _ _ | refine Below.drew ?_)
theorem box0 (w : World) : Bs w (w.alloc (.cells #[.slice none 0 0, .slice none 0 0] TF)) [(w.heap.size, TF, #[.slice none 0 0, .slice none 0 0])] := (Bs.nil w).alloc TF #[.slice none 0 0, .slice none 0 0]
set_option maxHeartbeats 4000000 in
theorem of_neg (w : World) {x y : Int} (h : x < 0 ∨ 0 ≤ x ∧ y < 0) :
    Calls Try.prog 35 #[.int .i64 x, .int .i64 y] w fun e w' => Err e 2 ∧ Below w.heap.size w w' := by
  have HB := Lib.hid (box0 w).below
  obtain ⟨z, hz⟩ : ∃ z, z = w.heap.size := ⟨_, rfl⟩
  have hzw : w.heap.size ≤ z := by omega
  clear hz
  rcases h with h | ⟨h, h2⟩
  all_goals
    go_enter Try.func35, Try.ntmps35
    go_wp2
    refine bodyPost_ret (v := .tuple #[fv none 0 0 none 0 0, .int .i64 2]) (by unfold fv; simp [results, Try.results35, go_sem]) rfl ?_
    refine ⟨rfl, ?_⟩
    repeat' (first | exact HB.out | refine bl_alloc ?_ _ | refine bse ?_ (by first | assumption | exact Nat.le_refl _) _ _ | refine Below.drew ?_)
set_option maxHeartbeats 4000000 in
theorem of_ok (w : World) {x y : Nat} (hx : x ≤ 9223372036854775807) (hy : y ≤ 9223372036854775807) (hy0 : 0 < y) :
    Calls Try.prog 35 #[.int .i64 (x : Int), .int .i64 (y : Int)] w fun e w' => Res w.heap.size w' e (x / Nat.gcd x y) (y / Nat.gcd x y) ∧ Below w.heap.size w w' := by
  have BS0 := Lib.hid (box0 w)
  have k1 : ((x : Int) < 0) = False := eq_false (by omega)
  have k2 : ((y : Int) < 0) = False := eq_false (by omega)
  have k3 : IntKind.u64.wrap (x : Int) = (x : Int) := IntWalk.u64_in _ (by omega)
  have k4 : IntKind.u64.wrap (y : Int) = (y : Int) := IntWalk.u64_in _ (by omega)
  obtain ⟨lx, hlx⟩ : ∃ l, l = L32 x := ⟨_, rfl⟩
  obtain ⟨ly, hly⟩ : ∃ l, l = L32 y := ⟨_, rfl⟩
  have HLX := Lib.hid hlx
  have HLY := Lib.hid hly
  have hlx64 : lx ≤ 64 := by rw [hlx]; exact Nat.le_trans (fit32_le (N := x) (n := 2) (Nat.lt_of_le_of_lt hx (by decide))) (by omega)
  have hly64 : ly ≤ 64 := by rw [hly]; exact Nat.le_trans (fit32_le (N := y) (n := 2) (Nat.lt_of_le_of_lt hy (by decide))) (by omega)
  have HY0 := Lib.hid hy0
  have HNX := Lib.hid (show x < 18446744073709551616 by omega)
  have HNY := Lib.hid (show y < 18446744073709551616 by omega)
  clear hlx hly hx hy hy0
  go_enter Try.func35, Try.ntmps35
  go_wp2_with fail
  (with_reducible refine (of_any x HNX.out _).mono ?_)
  rintro e w1 ⟨Dx, cx, rfl, _, hcx, hb1⟩
  rw [← HLX.out] at hcx ⊢
  have BS1 := Lib.hid (BS0.out.on hb1)
  have HCX := Lib.hid hcx
  clear hcx hb1 BS0
  go_wp2_with fail
  (with_reducible refine (of_any y HNY.out _).mono ?_)
  rintro e w2 ⟨Dy, cy, rfl, _, hcy, hb2⟩
  rw [← HLY.out] at hcy ⊢
  have BS2 := Lib.hid (BS1.out.on hb2)
  have HCX2 := Lib.hid (HCX.out.below hb2)
  have HCY := Lib.hid hcy
  clear hcy hb2 BS1
  go_wp2_with fail
  refine (make_any (x := x) (y := y) hlx64 hly64 HLX.out HLY.out HCX2.out HCY.out HY0.out).mono ?_
  rintro e w4 ⟨⟨Da, ca, Db, cb, rfl, hla, hlb, hca, hcb, hfa, hfb⟩, hb4⟩
  have HZ6 := Lib.hid (BS2.out.get (.head _)).2.1
  have HW6 := Lib.hid BS2.out.below.size
  have BS4 := Lib.hid (BS2.out.on hb4)
  obtain ⟨l1, hl1⟩ : ∃ l, l = L32 (x / Nat.gcd x y) := ⟨_, rfl⟩
  obtain ⟨l2, hl2⟩ : ∃ l, l = L32 (y / Nat.gcd x y) := ⟨_, rfl⟩
  rw [← hl1] at hla hca ⊢
  rw [← hl2] at hlb hcb ⊢
  have HL1 := Lib.hid hl1
  have HL2 := Lib.hid hl2
  have HCA := Lib.hid hca
  have HCB := Lib.hid hcb
  have HFA := Lib.hid hfa
  have HFB := Lib.hid hfb
  obtain ⟨_, lz, kz⟩ := BS4.out.get (.head _)
  obtain ⟨z, hz⟩ : ∃ z, z = w.heap.size := ⟨_, rfl⟩
  have HZW := Lib.hid (show w.heap.size ≤ z by omega)
  have HZ7 : Hid (z < w2.heap.size) := by rw [hz]; exact HZ6
  rw [← hz] at kz lz
  have s0 : w4.cell? ⟨z, 0, none⟩ = some (.slice none 0 0) := kz.cell 0
  have s1 : w4.cell? ⟨z, 1, none⟩ = some (.slice none 0 0) := kz.cell 1
  have f0 : w4.frozen? ⟨z, 0, none⟩ = false := kz.frozen 0
  have f1 : w4.frozen? ⟨z, 1, none⟩ = false := kz.frozen 1
  have HB7 := Lib.hid BS4.out.below
  rw [show (Value.pointer (some ⟨w.heap.size, 0, none⟩)) = .pointer (some ⟨z, 0, none⟩) by rw [hz]]
  clear hl1 hl2 hca hcb hfa hfb kz hz hb4
  unfold fv
  go_wp2
  refine bodyPost_ret (v := .tuple #[fv Da l1 ca Db l2 cb, .int .i64 0]) (by unfold fv; simp [results, Try.results35, go_sem, s0, s1]) rfl ?_
  refine ⟨⟨Da, ca, Db, cb, by rw [← HL1.out, ← HL2.out], by rw [← HL1.out]; exact hla, by rw [← HL2.out]; exact hlb, ?_, ?_, HFA.out.mono HW6.out, HFB.out.mono HW6.out⟩, ?_⟩
  · rw [← HL1.out]
    exact (HCA.out.set_ HFA.out HZ7.out _ _).set_ HFA.out HZ7.out _ _
  · rw [← HL2.out]
    exact (HCB.out.set_ HFB.out HZ7.out _ _).set_ HFB.out HZ7.out _ _
  · repeat' (first | exact HB7.out | refine bl_alloc ?_ _ | refine bse ?_ HZW.out _ _ | refine Below.drew ?_)
set_option maxHeartbeats 4000000 in
theorem of_zero (w : World) {x : Nat} (hx : x ≤ 9223372036854775807) :
    Calls Try.prog 35 #[.int .i64 (x : Int), .int .i64 0] w fun e w' => Err e 10 ∧ Below w.heap.size w w' := by
  have BS0 := Lib.hid (box0 w)
  have k1 : ((x : Int) < 0) = False := eq_false (by omega)
  have k3 : IntKind.u64.wrap (x : Int) = (x : Int) := IntWalk.u64_in _ (by omega)
  obtain ⟨lx, hlx⟩ : ∃ l, l = L32 x := ⟨_, rfl⟩
  have HLX := Lib.hid hlx
  have hlx64 : lx ≤ 64 := by rw [hlx]; exact Nat.le_trans (fit32_le (N := x) (n := 2) (Nat.lt_of_le_of_lt hx (by decide))) (by omega)
  have HNX := Lib.hid (show x < 18446744073709551616 by omega)
  have HVX := Lib.hid (vd_true hlx64 hlx)
  have HL0 := Lib.hid (show L32 0 = 0 from L32_zero.2 rfl)
  clear hlx hx
  go_enter Try.func35, Try.ntmps35
  go_wp2_with fail
  (with_reducible refine (of_any x HNX.out _).mono ?_)
  rintro e w1 ⟨Dx, cx, rfl, _, hcx, hb1⟩
  rw [← HLX.out] at hcx ⊢
  have BS1 := Lib.hid (BS0.out.on hb1)
  have HCX := Lib.hid hcx
  clear hcx hb1 BS0
  go_wp2_with fail
  refine (of_any 0 (by omega) _).mono ?_
  rintro e w2 ⟨Dy, cy, rfl, _, hcy, hb2⟩
  rw [HL0.out] at hcy ⊢
  have BS2 := Lib.hid (BS1.out.on hb2)
  have HCX2 := Lib.hid (HCX.out.below hb2)
  clear hcy hb2 BS1
  go_wp2_with fail
  refine (make_zero (by omega) HCX2.out HVX.out).mono ?_
  rintro e w4 ⟨rfl, hb4⟩
  have BS4 := Lib.hid (BS2.out.on hb4)
  obtain ⟨_, lz, kz⟩ := BS4.out.get (.head _)
  obtain ⟨z, hz⟩ : ∃ z, z = w.heap.size := ⟨_, rfl⟩
  have HZW := Lib.hid (show w.heap.size ≤ z by omega)
  rw [← hz] at kz lz
  have s0 : w4.cell? ⟨z, 0, none⟩ = some (.slice none 0 0) := kz.cell 0
  have s1 : w4.cell? ⟨z, 1, none⟩ = some (.slice none 0 0) := kz.cell 1
  have f0 : w4.frozen? ⟨z, 0, none⟩ = false := kz.frozen 0
  have f1 : w4.frozen? ⟨z, 1, none⟩ = false := kz.frozen 1
  have HB7 := Lib.hid BS4.out.below
  rw [show (Value.pointer (some ⟨w.heap.size, 0, none⟩)) = .pointer (some ⟨z, 0, none⟩) by rw [hz]]
  clear kz hz hb4
  unfold fv
  go_wp2
  refine bodyPost_ret (v := .tuple #[fv none 0 0 none 0 0, .int .i64 10]) (by unfold fv; simp [results, Try.results35, go_sem, s0, s1]) rfl ?_
  refine ⟨rfl, ?_⟩
  repeat' (first | exact HB7.out | refine bl_alloc ?_ _ | refine bse ?_ HZW.out _ _ | refine Below.drew ?_)
end Fr
end Go.Proofs.Ytiflmnmkmpjecaa
