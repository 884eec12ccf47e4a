/- The walks of fairness.Tail in its other cases. -/
import Derived.Test.YtiflmnmkmpjecaaG4
import Derived.Test.YtiflmnmkmpjecaaFaRuns
set_option linter.unusedVariables false
namespace Go.Proofs.Ytiflmnmkmpjecaa
open Go.RowKit
namespace Fa
open Fr
set_option maxHeartbeats 4000000 in
set_option maxRecDepth 100000 in
theorem tail_bad1 (w : World) {D E : Option Addr} {n0 n1 c0 c1 : Nat} {n k : Int} (h : n < 0 ∨ 0 ≤ n ∧ 64 < n) :
    Calls Try.prog 20 #[.int .i64 n, .int .i64 k, fv D n0 c0 E n1 c1] w fun e w' => Err e 2 ∧ Below w.heap.size w w' := by
  have BS0 := Lib.hid (boxesT w (.int .i64 n) (.slice D n0 c0) (.slice E n1 c1))
  unfold fv
  rcases h with h1 | ⟨h1, h2⟩
  all_goals
    go_enter Try.func20, Try.ntmps20
    go_upto_region 1 with (fail)
    obtain ⟨wa, hwa⟩ : ∃ wa, wa = (((w.alloc (.cells #[.int .i64 n] TI)).alloc (.cells #[.slice D n0 c0, .slice E n1 c1] TF)).alloc (.cells #[.slice none 0 0, .slice none 0 0] TF)) := ⟨_, rfl⟩
    change Code.wp _ _ _ _ (((w.alloc (.cells #[.int .i64 n] TI)).alloc (.cells #[.slice D n0 c0, .slice E n1 c1] TF)).alloc (.cells #[.slice none 0 0, .slice none 0 0] TF))
    rw [← hwa] at BS0 ⊢
    obtain ⟨nb, hnb⟩ : ∃ b, b = w.heap.size := ⟨_, rfl⟩
    obtain ⟨fb, hfb⟩ : ∃ b, b = w.heap.size + 1 := ⟨_, rfl⟩
    obtain ⟨z, hz⟩ : ∃ b, b = w.heap.size + 1 + 1 := ⟨_, rfl⟩
    have hzw : w.heap.size ≤ z := by omega
    have bs0 := BS0.out
    rw [← hz, ← hfb, ← hnb] at bs0
    rw [show (Value.pointer (some ⟨w.heap.size, 0, none⟩)) = .pointer (some ⟨nb, 0, none⟩) by rw [hnb], show (Value.pointer (some ⟨w.heap.size + 1, 0, none⟩)) = .pointer (some ⟨fb, 0, none⟩) by rw [hfb], show (Value.pointer (some ⟨w.heap.size + 1 + 1, 0, none⟩)) = .pointer (some ⟨z, 0, none⟩) by rw [hz]]
    have BS := Lib.hid bs0
    clear hwa BS0 bs0 hz hfb hnb
    have qn : wa.cell? ⟨nb, 0, none⟩ = some (.int .i64 n) := (BS.out.get (.tail _ (.tail _ (.head _)))).2.2.cell 0
    have qf0 : wa.cell? ⟨fb, 0, none⟩ = some (.slice D n0 c0) := (BS.out.get (.tail _ (.head _))).2.2.cell 0
    have qf1 : wa.cell? ⟨fb, 1, none⟩ = some (.slice E n1 c1) := (BS.out.get (.tail _ (.head _))).2.2.cell 1
    obtain ⟨_, lz, kz⟩ := BS.out.get (.head _)
    have s0 : wa.cell? ⟨z, 0, none⟩ = some (.slice none 0 0) := kz.cell 0
    have s1 : wa.cell? ⟨z, 1, none⟩ = some (.slice none 0 0) := kz.cell 1
    have f0 : wa.frozen? ⟨z, 0, none⟩ = false := kz.frozen 0
    have f1 : wa.frozen? ⟨z, 1, none⟩ = false := kz.frozen 1
    have HB7 := Lib.hid BS.out.below
    clear kz
    go_wp2
    refine bodyPost_ret (v := .tuple #[fv none 0 0 none 0 0, .int .i64 2]) (by unfold fv; simp [results, Try.results20, go_sem, s0, s1]) rfl ?_
    refine ⟨rfl, ?_⟩
    repeat' (first | exact HB7.out | refine bl_alloc ?_ _ | refine bse ?_ (by first | assumption | exact Nat.le_refl _) _ _)
set_option maxHeartbeats 4000000 in
set_option maxRecDepth 100000 in
theorem tail_bad2 (w : World) {D E : Option Addr} {n0 n1 c0 c1 : Nat} {n : Nat} {k : Int} (hn : n ≤ 64) (kv : ∀ w', Below w.heap.size w w' → Calls Try.prog 48 #[.agg #[.slice D n0 c0, .slice E n1 c1]] w' fun e w'' => e = .returned (.bool false) ∧ Below w'.heap.size w' w'') :
    Calls Try.prog 20 #[.int .i64 (n : Int), .int .i64 k, fv D n0 c0 E n1 c1] w fun e w' => Err e 2 ∧ Below w.heap.size w w' := by
  have BS0 := Lib.hid (boxesT w (.int .i64 (n : Int)) (.slice D n0 c0) (.slice E n1 c1))
  have HKV := Lib.hid kv
  unfold fv
  clear kv
  go_enter Try.func20, Try.ntmps20
  go_upto_region 1 with (fail)
  obtain ⟨wa, hwa⟩ : ∃ wa, wa = (((w.alloc (.cells #[.int .i64 (n : Int)] TI)).alloc (.cells #[.slice D n0 c0, .slice E n1 c1] TF)).alloc (.cells #[.slice none 0 0, .slice none 0 0] TF)) := ⟨_, rfl⟩
  change Code.wp _ _ _ _ (((w.alloc (.cells #[.int .i64 (n : Int)] TI)).alloc (.cells #[.slice D n0 c0, .slice E n1 c1] TF)).alloc (.cells #[.slice none 0 0, .slice none 0 0] TF))
  rw [← hwa] at BS0 ⊢
  obtain ⟨nb, hnb⟩ : ∃ b, b = w.heap.size := ⟨_, rfl⟩
  obtain ⟨fb, hfb⟩ : ∃ b, b = w.heap.size + 1 := ⟨_, rfl⟩
  obtain ⟨z, hz⟩ : ∃ b, b = w.heap.size + 1 + 1 := ⟨_, rfl⟩
  have hzw : w.heap.size ≤ z := by omega
  have bs0 := BS0.out
  rw [← hz, ← hfb, ← hnb] at bs0
  rw [show (Value.pointer (some ⟨w.heap.size, 0, none⟩)) = .pointer (some ⟨nb, 0, none⟩) by rw [hnb], show (Value.pointer (some ⟨w.heap.size + 1, 0, none⟩)) = .pointer (some ⟨fb, 0, none⟩) by rw [hfb], show (Value.pointer (some ⟨w.heap.size + 1 + 1, 0, none⟩)) = .pointer (some ⟨z, 0, none⟩) by rw [hz]]
  have BS := Lib.hid bs0
  clear hwa BS0 bs0 hz hfb hnb
  have qn : wa.cell? ⟨nb, 0, none⟩ = some (.int .i64 (n : Int)) := (BS.out.get (.tail _ (.tail _ (.head _)))).2.2.cell 0
  have qf0 : wa.cell? ⟨fb, 0, none⟩ = some (.slice D n0 c0) := (BS.out.get (.tail _ (.head _))).2.2.cell 0
  have qf1 : wa.cell? ⟨fb, 1, none⟩ = some (.slice E n1 c1) := (BS.out.get (.tail _ (.head _))).2.2.cell 1
  go_wp2_with fail
  refine (HKV.out _ BS.out.below).mono ?_
  rintro e w1 ⟨rfl, hb⟩
  replace BS := Lib.hid (BS.out.on hb)
  clear hb qn qf0 qf1 HKV
  have qn : w1.cell? ⟨nb, 0, none⟩ = some (.int .i64 (n : Int)) := (BS.out.get (.tail _ (.tail _ (.head _)))).2.2.cell 0
  have qf0 : w1.cell? ⟨fb, 0, none⟩ = some (.slice D n0 c0) := (BS.out.get (.tail _ (.head _))).2.2.cell 0
  have qf1 : w1.cell? ⟨fb, 1, none⟩ = some (.slice E n1 c1) := (BS.out.get (.tail _ (.head _))).2.2.cell 1
  obtain ⟨_, lz, kz⟩ := BS.out.get (.head _)
  have s0 : w1.cell? ⟨z, 0, none⟩ = some (.slice none 0 0) := kz.cell 0
  have s1 : w1.cell? ⟨z, 1, none⟩ = some (.slice none 0 0) := kz.cell 1
  have f0 : w1.frozen? ⟨z, 0, none⟩ = false := kz.frozen 0
  have f1 : w1.frozen? ⟨z, 1, none⟩ = false := kz.frozen 1
  have HB7 := Lib.hid BS.out.below
  clear kz
  go_wp2
  refine bodyPost_ret (v := .tuple #[fv none 0 0 none 0 0, .int .i64 2]) (by unfold fv; simp [results, Try.results20, go_sem, s0, s1]) rfl ?_
  refine ⟨rfl, ?_⟩
  repeat' (first | exact HB7.out | refine bl_alloc ?_ _ | refine bse ?_ (by first | assumption | exact Nat.le_refl _) _ _)
set_option maxHeartbeats 4000000 in
set_option maxRecDepth 100000 in
theorem tail_bad3 (w : World) {D E : Option Addr} {n0 n1 c0 c1 : Nat} {n : Nat} {k cc : Int} (hn : n ≤ 64) (kv : ∀ w', Below w.heap.size w w' → Calls Try.prog 48 #[.agg #[.slice D n0 c0, .slice E n1 c1]] w' fun e w'' => e = .returned (.bool true) ∧ Below w'.heap.size w' w'')
    (kc : ∀ w', Below w.heap.size w w' → Calls Try.prog 49 #[.agg #[.slice D n0 c0], .agg #[.slice E n1 c1]] w' fun e w'' => e = .returned (.int .i64 cc) ∧ Below w'.heap.size w' w'') (hcc : 0 < cc) :
    Calls Try.prog 20 #[.int .i64 (n : Int), .int .i64 k, fv D n0 c0 E n1 c1] w fun e w' => Err e 2 ∧ Below w.heap.size w w' := by
  have BS0 := Lib.hid (boxesT w (.int .i64 (n : Int)) (.slice D n0 c0) (.slice E n1 c1))
  have HKV := Lib.hid kv
  have HKC := Lib.hid kc
  unfold fv
  clear kv kc
  go_enter Try.func20, Try.ntmps20
  go_upto_region 1 with (fail)
  obtain ⟨wa, hwa⟩ : ∃ wa, wa = (((w.alloc (.cells #[.int .i64 (n : Int)] TI)).alloc (.cells #[.slice D n0 c0, .slice E n1 c1] TF)).alloc (.cells #[.slice none 0 0, .slice none 0 0] TF)) := ⟨_, rfl⟩
  change Code.wp _ _ _ _ (((w.alloc (.cells #[.int .i64 (n : Int)] TI)).alloc (.cells #[.slice D n0 c0, .slice E n1 c1] TF)).alloc (.cells #[.slice none 0 0, .slice none 0 0] TF))
  rw [← hwa] at BS0 ⊢
  obtain ⟨nb, hnb⟩ : ∃ b, b = w.heap.size := ⟨_, rfl⟩
  obtain ⟨fb, hfb⟩ : ∃ b, b = w.heap.size + 1 := ⟨_, rfl⟩
  obtain ⟨z, hz⟩ : ∃ b, b = w.heap.size + 1 + 1 := ⟨_, rfl⟩
  have hzw : w.heap.size ≤ z := by omega
  have bs0 := BS0.out
  rw [← hz, ← hfb, ← hnb] at bs0
  rw [show (Value.pointer (some ⟨w.heap.size, 0, none⟩)) = .pointer (some ⟨nb, 0, none⟩) by rw [hnb], show (Value.pointer (some ⟨w.heap.size + 1, 0, none⟩)) = .pointer (some ⟨fb, 0, none⟩) by rw [hfb], show (Value.pointer (some ⟨w.heap.size + 1 + 1, 0, none⟩)) = .pointer (some ⟨z, 0, none⟩) by rw [hz]]
  have BS := Lib.hid bs0
  clear hwa BS0 bs0 hz hfb hnb
  have qn : wa.cell? ⟨nb, 0, none⟩ = some (.int .i64 (n : Int)) := (BS.out.get (.tail _ (.tail _ (.head _)))).2.2.cell 0
  have qf0 : wa.cell? ⟨fb, 0, none⟩ = some (.slice D n0 c0) := (BS.out.get (.tail _ (.head _))).2.2.cell 0
  have qf1 : wa.cell? ⟨fb, 1, none⟩ = some (.slice E n1 c1) := (BS.out.get (.tail _ (.head _))).2.2.cell 1
  go_wp2_with fail
  refine (HKV.out _ BS.out.below).mono ?_
  rintro e w1 ⟨rfl, hb⟩
  replace BS := Lib.hid (BS.out.on hb)
  clear hb qn qf0 qf1 HKV
  have qn : w1.cell? ⟨nb, 0, none⟩ = some (.int .i64 (n : Int)) := (BS.out.get (.tail _ (.tail _ (.head _)))).2.2.cell 0
  have qf0 : w1.cell? ⟨fb, 0, none⟩ = some (.slice D n0 c0) := (BS.out.get (.tail _ (.head _))).2.2.cell 0
  have qf1 : w1.cell? ⟨fb, 1, none⟩ = some (.slice E n1 c1) := (BS.out.get (.tail _ (.head _))).2.2.cell 1
  go_wp2_with fail
  refine (HKC.out _ BS.out.below).mono ?_
  rintro e w2 ⟨rfl, hb⟩
  replace BS := Lib.hid (BS.out.on hb)
  clear hb qn qf0 qf1 HKC
  have qn : w2.cell? ⟨nb, 0, none⟩ = some (.int .i64 (n : Int)) := (BS.out.get (.tail _ (.tail _ (.head _)))).2.2.cell 0
  have qf0 : w2.cell? ⟨fb, 0, none⟩ = some (.slice D n0 c0) := (BS.out.get (.tail _ (.head _))).2.2.cell 0
  have qf1 : w2.cell? ⟨fb, 1, none⟩ = some (.slice E n1 c1) := (BS.out.get (.tail _ (.head _))).2.2.cell 1
  obtain ⟨_, lz, kz⟩ := BS.out.get (.head _)
  have s0 : w2.cell? ⟨z, 0, none⟩ = some (.slice none 0 0) := kz.cell 0
  have s1 : w2.cell? ⟨z, 1, none⟩ = some (.slice none 0 0) := kz.cell 1
  have f0 : w2.frozen? ⟨z, 0, none⟩ = false := kz.frozen 0
  have f1 : w2.frozen? ⟨z, 1, none⟩ = false := kz.frozen 1
  have HB7 := Lib.hid BS.out.below
  clear kz
  go_wp2
  refine bodyPost_ret (v := .tuple #[fv none 0 0 none 0 0, .int .i64 2]) (by unfold fv; simp [results, Try.results20, go_sem, s0, s1]) rfl ?_
  refine ⟨rfl, ?_⟩
  repeat' (first | exact HB7.out | refine bl_alloc ?_ _ | refine bse ?_ (by first | assumption | exact Nat.le_refl _) _ _)
set_option maxHeartbeats 4000000 in
set_option maxRecDepth 100000 in
theorem tail_one (w : World) {D E : Option Addr} {n0 n1 c0 c1 : Nat} {n : Nat} {k cc : Int} (hn : n ≤ 64) (kv : ∀ w', Below w.heap.size w w' → Calls Try.prog 48 #[.agg #[.slice D n0 c0, .slice E n1 c1]] w' fun e w'' => e = .returned (.bool true) ∧ Below w'.heap.size w' w'')
    (kc : ∀ w', Below w.heap.size w w' → Calls Try.prog 49 #[.agg #[.slice D n0 c0], .agg #[.slice E n1 c1]] w' fun e w'' => e = .returned (.int .i64 cc) ∧ Below w'.heap.size w' w'') (hcc : cc ≤ 0) (hk : k ≤ 0) {qa qb : Nat} (hqa : qa = 1 / Nat.gcd 1 1) (hqb : qb = 1 / Nat.gcd 1 1) :
    Calls Try.prog 20 #[.int .i64 (n : Int), .int .i64 k, fv D n0 c0 E n1 c1] w fun e w' => Res w.heap.size w' e qa qb ∧ Below w.heap.size w w' := by
  have BS0 := Lib.hid (boxesT w (.int .i64 (n : Int)) (.slice D n0 c0) (.slice E n1 c1))
  have HKV := Lib.hid kv
  have HKC := Lib.hid kc
  have HOF : Hid (∀ w', Calls Try.prog 35 #[.int .i64 1, .int .i64 1] w' fun e w'' => Res w'.heap.size w'' e qa qb ∧ Below w'.heap.size w' w'') := Lib.hid fun w' => by
    rw [hqa, hqb]
    exact of_ok w' (x := 1) (y := 1) (by omega) (by omega) (by omega)
  have hc0 : ((0 : Int) < cc) = False := eq_false (by omega)
  unfold fv
  clear kv kc hqa hqb
  go_enter Try.func20, Try.ntmps20
  go_upto_region 1 with (fail)
  obtain ⟨wa, hwa⟩ : ∃ wa, wa = (((w.alloc (.cells #[.int .i64 (n : Int)] TI)).alloc (.cells #[.slice D n0 c0, .slice E n1 c1] TF)).alloc (.cells #[.slice none 0 0, .slice none 0 0] TF)) := ⟨_, rfl⟩
  change Code.wp _ _ _ _ (((w.alloc (.cells #[.int .i64 (n : Int)] TI)).alloc (.cells #[.slice D n0 c0, .slice E n1 c1] TF)).alloc (.cells #[.slice none 0 0, .slice none 0 0] TF))
  rw [← hwa] at BS0 ⊢
  obtain ⟨nb, hnb⟩ : ∃ b, b = w.heap.size := ⟨_, rfl⟩
  obtain ⟨fb, hfb⟩ : ∃ b, b = w.heap.size + 1 := ⟨_, rfl⟩
  obtain ⟨z, hz⟩ : ∃ b, b = w.heap.size + 1 + 1 := ⟨_, rfl⟩
  have hzw : w.heap.size ≤ z := by omega
  have bs0 := BS0.out
  rw [← hz, ← hfb, ← hnb] at bs0
  rw [show (Value.pointer (some ⟨w.heap.size, 0, none⟩)) = .pointer (some ⟨nb, 0, none⟩) by rw [hnb], show (Value.pointer (some ⟨w.heap.size + 1, 0, none⟩)) = .pointer (some ⟨fb, 0, none⟩) by rw [hfb], show (Value.pointer (some ⟨w.heap.size + 1 + 1, 0, none⟩)) = .pointer (some ⟨z, 0, none⟩) by rw [hz]]
  have BS := Lib.hid bs0
  clear hwa BS0 bs0 hz hfb hnb
  have qn : wa.cell? ⟨nb, 0, none⟩ = some (.int .i64 (n : Int)) := (BS.out.get (.tail _ (.tail _ (.head _)))).2.2.cell 0
  have qf0 : wa.cell? ⟨fb, 0, none⟩ = some (.slice D n0 c0) := (BS.out.get (.tail _ (.head _))).2.2.cell 0
  have qf1 : wa.cell? ⟨fb, 1, none⟩ = some (.slice E n1 c1) := (BS.out.get (.tail _ (.head _))).2.2.cell 1
  go_wp2_with fail
  refine (HKV.out _ BS.out.below).mono ?_
  rintro e w1 ⟨rfl, hb⟩
  replace BS := Lib.hid (BS.out.on hb)
  clear hb qn qf0 qf1 HKV
  have qn : w1.cell? ⟨nb, 0, none⟩ = some (.int .i64 (n : Int)) := (BS.out.get (.tail _ (.tail _ (.head _)))).2.2.cell 0
  have qf0 : w1.cell? ⟨fb, 0, none⟩ = some (.slice D n0 c0) := (BS.out.get (.tail _ (.head _))).2.2.cell 0
  have qf1 : w1.cell? ⟨fb, 1, none⟩ = some (.slice E n1 c1) := (BS.out.get (.tail _ (.head _))).2.2.cell 1
  go_wp2_with fail
  refine (HKC.out _ BS.out.below).mono ?_
  rintro e w2 ⟨rfl, hb⟩
  replace BS := Lib.hid (BS.out.on hb)
  clear hb qn qf0 qf1 HKC
  have qn : w2.cell? ⟨nb, 0, none⟩ = some (.int .i64 (n : Int)) := (BS.out.get (.tail _ (.tail _ (.head _)))).2.2.cell 0
  have qf0 : w2.cell? ⟨fb, 0, none⟩ = some (.slice D n0 c0) := (BS.out.get (.tail _ (.head _))).2.2.cell 0
  have qf1 : w2.cell? ⟨fb, 1, none⟩ = some (.slice E n1 c1) := (BS.out.get (.tail _ (.head _))).2.2.cell 1
  go_wp2_with fail
  refine (HOF.out _).mono ?_
  rintro e w5 ⟨⟨Da', ca', Db', cb', rfl, hla, hlb, hca, hcb, hfa, hfb⟩, hb5⟩
  have HZ6 := Lib.hid (BS.out.get (.head _)).2.1
  have HW6 := Lib.hid BS.out.below.size
  replace BS := Lib.hid (BS.out.on hb5)
  clear hb5
  obtain ⟨_, lz, kz⟩ := BS.out.get (.head _)
  have s0 : w5.cell? ⟨z, 0, none⟩ = some (.slice none 0 0) := kz.cell 0
  have s1 : w5.cell? ⟨z, 1, none⟩ = some (.slice none 0 0) := kz.cell 1
  have f0 : w5.frozen? ⟨z, 0, none⟩ = false := kz.frozen 0
  have f1 : w5.frozen? ⟨z, 1, none⟩ = false := kz.frozen 1
  have HB7 := Lib.hid BS.out.below
  clear kz qn qf0 qf1
  obtain ⟨l1, hl1⟩ : ∃ l, l = L32 (qa) := ⟨_, rfl⟩
  obtain ⟨l2, hl2⟩ : ∃ l, l = L32 (qb) := ⟨_, rfl⟩
  rw [← hl1] at hla hca ⊢
  rw [← hl2] at hlb hcb ⊢
  have HL1 := Lib.hid hl1
  have HL2 := Lib.hid hl2
  have HCA := Lib.hid hca
  have HCB := Lib.hid hcb
  have HFA := Lib.hid hfa
  have HFB := Lib.hid hfb
  clear hl1 hl2 hca hcb hfa hfb
  unfold fv
  go_wp2
  refine bodyPost_ret (v := .tuple #[fv Da' l1 ca' Db' l2 cb', .int .i64 0]) (by unfold fv; simp [results, Try.results20, go_sem, s0, s1]) rfl ?_
  refine ⟨⟨Da', ca', Db', cb', by rw [← HL1.out, ← HL2.out], by rw [← HL1.out]; exact hla, by rw [← HL2.out]; exact hlb, ?_, ?_, HFA.out.mono HW6.out, HFB.out.mono HW6.out⟩, ?_⟩
  · rw [← HL1.out]
    exact (HCA.out.set_ HFA.out HZ6.out _ _).set_ HFA.out HZ6.out _ _
  · rw [← HL2.out]
    exact (HCB.out.set_ HFB.out HZ6.out _ _).set_ HFB.out HZ6.out _ _
  · exact bse (bse HB7.out hzw _ _) hzw _ _
set_option maxHeartbeats 4000000 in
set_option maxRecDepth 100000 in
theorem tail_none (w : World) {D E : Option Addr} {n0 n1 c0 c1 : Nat} {n : Nat} {k cc : Int} (hn : n ≤ 64) (kv : ∀ w', Below w.heap.size w w' → Calls Try.prog 48 #[.agg #[.slice D n0 c0, .slice E n1 c1]] w' fun e w'' => e = .returned (.bool true) ∧ Below w'.heap.size w' w'')
    (kc : ∀ w', Below w.heap.size w w' → Calls Try.prog 49 #[.agg #[.slice D n0 c0], .agg #[.slice E n1 c1]] w' fun e w'' => e = .returned (.int .i64 cc) ∧ Below w'.heap.size w' w'') (hcc : cc ≤ 0) (hk : 0 < k) (hk2 : (n : Int) < k) {qa qb : Nat} (hqa : qa = 0 / Nat.gcd 0 1) (hqb : qb = 1 / Nat.gcd 0 1) :
    Calls Try.prog 20 #[.int .i64 (n : Int), .int .i64 k, fv D n0 c0 E n1 c1] w fun e w' => Res w.heap.size w' e qa qb ∧ Below w.heap.size w w' := by
  have BS0 := Lib.hid (boxesT w (.int .i64 (n : Int)) (.slice D n0 c0) (.slice E n1 c1))
  have HKV := Lib.hid kv
  have HKC := Lib.hid kc
  have HOF : Hid (∀ w', Calls Try.prog 35 #[.int .i64 0, .int .i64 1] w' fun e w'' => Res w'.heap.size w'' e qa qb ∧ Below w'.heap.size w' w'') := Lib.hid fun w' => by
    rw [hqa, hqb]
    exact of_ok w' (x := 0) (y := 1) (by omega) (by omega) (by omega)
  have hc0 : ((0 : Int) < cc) = False := eq_false (by omega)
  unfold fv
  clear kv kc hqa hqb
  go_enter Try.func20, Try.ntmps20
  go_upto_region 1 with (fail)
  obtain ⟨wa, hwa⟩ : ∃ wa, wa = (((w.alloc (.cells #[.int .i64 (n : Int)] TI)).alloc (.cells #[.slice D n0 c0, .slice E n1 c1] TF)).alloc (.cells #[.slice none 0 0, .slice none 0 0] TF)) := ⟨_, rfl⟩
  change Code.wp _ _ _ _ (((w.alloc (.cells #[.int .i64 (n : Int)] TI)).alloc (.cells #[.slice D n0 c0, .slice E n1 c1] TF)).alloc (.cells #[.slice none 0 0, .slice none 0 0] TF))
  rw [← hwa] at BS0 ⊢
  obtain ⟨nb, hnb⟩ : ∃ b, b = w.heap.size := ⟨_, rfl⟩
  obtain ⟨fb, hfb⟩ : ∃ b, b = w.heap.size + 1 := ⟨_, rfl⟩
  obtain ⟨z, hz⟩ : ∃ b, b = w.heap.size + 1 + 1 := ⟨_, rfl⟩
  have hzw : w.heap.size ≤ z := by omega
  have bs0 := BS0.out
  rw [← hz, ← hfb, ← hnb] at bs0
  rw [show (Value.pointer (some ⟨w.heap.size, 0, none⟩)) = .pointer (some ⟨nb, 0, none⟩) by rw [hnb], show (Value.pointer (some ⟨w.heap.size + 1, 0, none⟩)) = .pointer (some ⟨fb, 0, none⟩) by rw [hfb], show (Value.pointer (some ⟨w.heap.size + 1 + 1, 0, none⟩)) = .pointer (some ⟨z, 0, none⟩) by rw [hz]]
  have BS := Lib.hid bs0
  clear hwa BS0 bs0 hz hfb hnb
  have qn : wa.cell? ⟨nb, 0, none⟩ = some (.int .i64 (n : Int)) := (BS.out.get (.tail _ (.tail _ (.head _)))).2.2.cell 0
  have qf0 : wa.cell? ⟨fb, 0, none⟩ = some (.slice D n0 c0) := (BS.out.get (.tail _ (.head _))).2.2.cell 0
  have qf1 : wa.cell? ⟨fb, 1, none⟩ = some (.slice E n1 c1) := (BS.out.get (.tail _ (.head _))).2.2.cell 1
  go_wp2_with fail
  refine (HKV.out _ BS.out.below).mono ?_
  rintro e w1 ⟨rfl, hb⟩
  replace BS := Lib.hid (BS.out.on hb)
  clear hb qn qf0 qf1 HKV
  have qn : w1.cell? ⟨nb, 0, none⟩ = some (.int .i64 (n : Int)) := (BS.out.get (.tail _ (.tail _ (.head _)))).2.2.cell 0
  have qf0 : w1.cell? ⟨fb, 0, none⟩ = some (.slice D n0 c0) := (BS.out.get (.tail _ (.head _))).2.2.cell 0
  have qf1 : w1.cell? ⟨fb, 1, none⟩ = some (.slice E n1 c1) := (BS.out.get (.tail _ (.head _))).2.2.cell 1
  go_wp2_with fail
  refine (HKC.out _ BS.out.below).mono ?_
  rintro e w2 ⟨rfl, hb⟩
  replace BS := Lib.hid (BS.out.on hb)
  clear hb qn qf0 qf1 HKC
  have qn : w2.cell? ⟨nb, 0, none⟩ = some (.int .i64 (n : Int)) := (BS.out.get (.tail _ (.tail _ (.head _)))).2.2.cell 0
  have qf0 : w2.cell? ⟨fb, 0, none⟩ = some (.slice D n0 c0) := (BS.out.get (.tail _ (.head _))).2.2.cell 0
  have qf1 : w2.cell? ⟨fb, 1, none⟩ = some (.slice E n1 c1) := (BS.out.get (.tail _ (.head _))).2.2.cell 1
  go_wp2_with fail
  refine (HOF.out _).mono ?_
  rintro e w5 ⟨⟨Da', ca', Db', cb', rfl, hla, hlb, hca, hcb, hfa, hfb⟩, hb5⟩
  have HZ6 := Lib.hid (BS.out.get (.head _)).2.1
  have HW6 := Lib.hid BS.out.below.size
  replace BS := Lib.hid (BS.out.on hb5)
  clear hb5
  obtain ⟨_, lz, kz⟩ := BS.out.get (.head _)
  have s0 : w5.cell? ⟨z, 0, none⟩ = some (.slice none 0 0) := kz.cell 0
  have s1 : w5.cell? ⟨z, 1, none⟩ = some (.slice none 0 0) := kz.cell 1
  have f0 : w5.frozen? ⟨z, 0, none⟩ = false := kz.frozen 0
  have f1 : w5.frozen? ⟨z, 1, none⟩ = false := kz.frozen 1
  have HB7 := Lib.hid BS.out.below
  clear kz qn qf0 qf1
  obtain ⟨l1, hl1⟩ : ∃ l, l = L32 (qa) := ⟨_, rfl⟩
  obtain ⟨l2, hl2⟩ : ∃ l, l = L32 (qb) := ⟨_, rfl⟩
  rw [← hl1] at hla hca ⊢
  rw [← hl2] at hlb hcb ⊢
  have HL1 := Lib.hid hl1
  have HL2 := Lib.hid hl2
  have HCA := Lib.hid hca
  have HCB := Lib.hid hcb
  have HFA := Lib.hid hfa
  have HFB := Lib.hid hfb
  clear hl1 hl2 hca hcb hfa hfb
  unfold fv
  go_wp2
  refine bodyPost_ret (v := .tuple #[fv Da' l1 ca' Db' l2 cb', .int .i64 0]) (by unfold fv; simp [results, Try.results20, go_sem, s0, s1]) rfl ?_
  refine ⟨⟨Da', ca', Db', cb', by rw [← HL1.out, ← HL2.out], by rw [← HL1.out]; exact hla, by rw [← HL2.out]; exact hlb, ?_, ?_, HFA.out.mono HW6.out, HFB.out.mono HW6.out⟩, ?_⟩
  · rw [← HL1.out]
    exact (HCA.out.set_ HFA.out HZ6.out _ _).set_ HFA.out HZ6.out _ _
  · rw [← HL2.out]
    exact (HCB.out.set_ HFB.out HZ6.out _ _).set_ HFB.out HZ6.out _ _
  · exact bse (bse HB7.out hzw _ _) hzw _ _
set_option maxHeartbeats 4000000 in
set_option maxRecDepth 100000 in
theorem tail_over (w : World) {D E : Option Addr} {n0 n1 c0 c1 : Nat} {n d : Nat} {k cc : Int} (hn : n ≤ 64) (kv : ∀ w', Below w.heap.size w w' → Calls Try.prog 48 #[.agg #[.slice D n0 c0, .slice E n1 c1]] w' fun e w'' => e = .returned (.bool true) ∧ Below w'.heap.size w' w'')
    (kc : ∀ w', Below w.heap.size w w' → Calls Try.prog 49 #[.agg #[.slice D n0 c0], .agg #[.slice E n1 c1]] w' fun e w'' => e = .returned (.int .i64 cc) ∧ Below w'.heap.size w' w'') (hcc : cc ≤ 0) (hk : 0 < k) (hk2 : k ≤ (n : Int)) (hn1 : n1 ≤ 64) (h1 : n1 = L32 d) (hy : Cells w E n1 (Lm (d32 d))) (h64 : 64 < L32 (d ^ n)) :
    Calls Try.prog 20 #[.int .i64 (n : Int), .int .i64 k, fv D n0 c0 E n1 c1] w fun e w' => Err e 9 ∧ Below w.heap.size w w' := by
  have BS0 := Lib.hid (boxesT w (.int .i64 (n : Int)) (.slice D n0 c0) (.slice E n1 c1))
  have HKV := Lib.hid kv
  have HKC := Lib.hid kc
  have H1 := Lib.hid h1
  have HY := Lib.hid hy
  have H64 := Lib.hid h64
  have hc0 : ((0 : Int) < cc) = False := eq_false (by omega)
  unfold fv
  clear kv kc h1 hy h64
  go_enter Try.func20, Try.ntmps20
  go_upto_region 1 with (fail)
  obtain ⟨wa, hwa⟩ : ∃ wa, wa = (((w.alloc (.cells #[.int .i64 (n : Int)] TI)).alloc (.cells #[.slice D n0 c0, .slice E n1 c1] TF)).alloc (.cells #[.slice none 0 0, .slice none 0 0] TF)) := ⟨_, rfl⟩
  change Code.wp _ _ _ _ (((w.alloc (.cells #[.int .i64 (n : Int)] TI)).alloc (.cells #[.slice D n0 c0, .slice E n1 c1] TF)).alloc (.cells #[.slice none 0 0, .slice none 0 0] TF))
  rw [← hwa] at BS0 ⊢
  obtain ⟨nb, hnb⟩ : ∃ b, b = w.heap.size := ⟨_, rfl⟩
  obtain ⟨fb, hfb⟩ : ∃ b, b = w.heap.size + 1 := ⟨_, rfl⟩
  obtain ⟨z, hz⟩ : ∃ b, b = w.heap.size + 1 + 1 := ⟨_, rfl⟩
  have hzw : w.heap.size ≤ z := by omega
  have bs0 := BS0.out
  rw [← hz, ← hfb, ← hnb] at bs0
  rw [show (Value.pointer (some ⟨w.heap.size, 0, none⟩)) = .pointer (some ⟨nb, 0, none⟩) by rw [hnb], show (Value.pointer (some ⟨w.heap.size + 1, 0, none⟩)) = .pointer (some ⟨fb, 0, none⟩) by rw [hfb], show (Value.pointer (some ⟨w.heap.size + 1 + 1, 0, none⟩)) = .pointer (some ⟨z, 0, none⟩) by rw [hz]]
  have BS := Lib.hid bs0
  clear hwa BS0 bs0 hz hfb hnb
  have qn : wa.cell? ⟨nb, 0, none⟩ = some (.int .i64 (n : Int)) := (BS.out.get (.tail _ (.tail _ (.head _)))).2.2.cell 0
  have qf0 : wa.cell? ⟨fb, 0, none⟩ = some (.slice D n0 c0) := (BS.out.get (.tail _ (.head _))).2.2.cell 0
  have qf1 : wa.cell? ⟨fb, 1, none⟩ = some (.slice E n1 c1) := (BS.out.get (.tail _ (.head _))).2.2.cell 1
  go_wp2_with fail
  refine (HKV.out _ BS.out.below).mono ?_
  rintro e w1 ⟨rfl, hb⟩
  replace BS := Lib.hid (BS.out.on hb)
  clear hb qn qf0 qf1 HKV
  have qn : w1.cell? ⟨nb, 0, none⟩ = some (.int .i64 (n : Int)) := (BS.out.get (.tail _ (.tail _ (.head _)))).2.2.cell 0
  have qf0 : w1.cell? ⟨fb, 0, none⟩ = some (.slice D n0 c0) := (BS.out.get (.tail _ (.head _))).2.2.cell 0
  have qf1 : w1.cell? ⟨fb, 1, none⟩ = some (.slice E n1 c1) := (BS.out.get (.tail _ (.head _))).2.2.cell 1
  go_wp2_with fail
  refine (HKC.out _ BS.out.below).mono ?_
  rintro e w2 ⟨rfl, hb⟩
  replace BS := Lib.hid (BS.out.on hb)
  clear hb qn qf0 qf1 HKC
  have qn : w2.cell? ⟨nb, 0, none⟩ = some (.int .i64 (n : Int)) := (BS.out.get (.tail _ (.tail _ (.head _)))).2.2.cell 0
  have qf0 : w2.cell? ⟨fb, 0, none⟩ = some (.slice D n0 c0) := (BS.out.get (.tail _ (.head _))).2.2.cell 0
  have qf1 : w2.cell? ⟨fb, 1, none⟩ = some (.slice E n1 c1) := (BS.out.get (.tail _ (.head _))).2.2.cell 1
  go_wp2_with fail
  refine (powers_any (a := d) hn1 H1.out (HY.out.below BS.out.below) hn).mono ?_
  rintro e w3 ⟨⟨h9, PD, kd, GD, rfl, hPD, heD, hfD⟩ | ⟨h9, rfl⟩, hb⟩
  case inl => exact absurd h9 (by have := H64.out; omega)
  replace BS := Lib.hid (BS.out.on hb)
  clear hb qn qf0 qf1 h9
  obtain ⟨_, lz, kz⟩ := BS.out.get (.head _)
  have s0 : w3.cell? ⟨z, 0, none⟩ = some (.slice none 0 0) := kz.cell 0
  have s1 : w3.cell? ⟨z, 1, none⟩ = some (.slice none 0 0) := kz.cell 1
  have f0 : w3.frozen? ⟨z, 0, none⟩ = false := kz.frozen 0
  have f1 : w3.frozen? ⟨z, 1, none⟩ = false := kz.frozen 1
  have HB7 := Lib.hid BS.out.below
  clear kz
  go_wp2
  refine bodyPost_ret (v := .tuple #[fv none 0 0 none 0 0, .int .i64 9]) (by unfold fv; simp [results, Try.results20, go_sem, s0, s1]) rfl ?_
  refine ⟨rfl, ?_⟩
  repeat' (first | exact HB7.out | refine bl_alloc ?_ _ | refine bse ?_ (by first | assumption | exact Nat.le_refl _) _ _)
end Fa
end Go.Proofs.Ytiflmnmkmpjecaa
