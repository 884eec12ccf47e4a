/- The walk of the reference's HitsChance (55). -/
import Derived.Test.YtiflmnmkmpjecaaG12
import Derived.Test.YtiflmnmkmpjecaaG5
set_option linter.unusedVariables false
namespace Go.Proofs.Ytiflmnmkmpjecaa
open Go.RowKit
namespace Fa
open Fr
set_option maxHeartbeats 4000000 in
set_option maxRecDepth 100000 in
theorem rhits_bad1 (w : World) {m o h : Int} (hb : o < 0 ∨ 0 ≤ o ∧ 80 < o ∨ 0 ≤ o ∧ o ≤ 80 ∧ m < 0 ∨ 0 ≤ o ∧ o ≤ 80 ∧ 0 ≤ m ∧ o < m) :
    Calls Try.prog 27 #[.agg (gc 1 m o), .int .i64 h] w fun e w' => Err e 2 ∧ Below w.heap.size w w' := by
  have BS0 := Lib.hid (boxesG w (gc 1 m o))
  unfold gc at BS0 ⊢
  have hn : h < 0 ∨ 0 ≤ h ∧ m < h ∨ 0 ≤ h ∧ h ≤ m := by omega
  rcases hb with h1 | ⟨h1, h2⟩ | ⟨h1, h2, h3⟩ | ⟨h1, h2, h3, h4⟩
  all_goals
    rcases hn with n1 | ⟨n1, n2⟩ | ⟨n1, n2⟩
  all_goals try (exfalso; omega; done)
  all_goals
    go_enter Try.func27, Try.ntmps27
    go_upto_region 1 with (fail)
    obtain ⟨wa, hwa⟩ : ∃ wa, wa = ((w.alloc (.cells #[.string ⟨#[]⟩, .int .i64 1, .int .i64 0, .int .i64 m, .int .i64 o, .int .i64 0, .int .i64 0, .int .i64 0, .int .i64 0, .int .i64 0, .int .i64 0, .int .i64 0, .int .i64 0, .int .i64 0, .int .i64 0, .int .i64 0, .int .i64 0, .int .i64 0, .int .i64 0, .int .i64 0, .slice none 0 0, .slice none 0 0] TG)).alloc (.cells #[.slice none 0 0, .slice none 0 0] TF)) := ⟨_, rfl⟩
    change Code.wp _ _ _ _ ((w.alloc (.cells #[.string ⟨#[]⟩, .int .i64 1, .int .i64 0, .int .i64 m, .int .i64 o, .int .i64 0, .int .i64 0, .int .i64 0, .int .i64 0, .int .i64 0, .int .i64 0, .int .i64 0, .int .i64 0, .int .i64 0, .int .i64 0, .int .i64 0, .int .i64 0, .int .i64 0, .int .i64 0, .int .i64 0, .slice none 0 0, .slice none 0 0] TG)).alloc (.cells #[.slice none 0 0, .slice none 0 0] TF))
    rw [← hwa] at BS0 ⊢
    obtain ⟨gb, hgb⟩ : ∃ b, b = w.heap.size := ⟨_, rfl⟩
    obtain ⟨z, hz⟩ : ∃ b, b = w.heap.size + 1 := ⟨_, rfl⟩
    have hzw : w.heap.size ≤ z := by omega
    have hgz : gb ≠ z := by omega
    have bs0 := BS0.out
    rw [← hgb, ← show z = gb + 1 by omega] at bs0
    rw [show (Value.pointer (some ⟨w.heap.size, 0, none⟩)) = .pointer (some ⟨gb, 0, none⟩) by rw [hgb], show (Value.pointer (some ⟨w.heap.size + 1, 0, none⟩)) = .pointer (some ⟨z, 0, none⟩) by rw [hz]]
    have BSA := Lib.hid bs0
    clear hwa BS0
    obtain ⟨_, lg, kg⟩ := bs0.get (.tail _ (.head _))
    have q1 : wa.cell? ⟨gb, 1, none⟩ = some (.int .i64 1) := kg.cell 1
    have q3 : wa.cell? ⟨gb, 3, none⟩ = some (.int .i64 m) := kg.cell 3
    have q4 : wa.cell? ⟨gb, 4, none⟩ = some (.int .i64 o) := kg.cell 4
    clear kg bs0 hgb hz
    obtain ⟨_, lz, kz⟩ := BSA.out.get (.head _)
    have s0 : wa.cell? ⟨z, 0, none⟩ = some (.slice none 0 0) := kz.cell 0
    have s1 : wa.cell? ⟨z, 1, none⟩ = some (.slice none 0 0) := kz.cell 1
    have f0 : wa.frozen? ⟨z, 0, none⟩ = false := kz.frozen 0
    have f1 : wa.frozen? ⟨z, 1, none⟩ = false := kz.frozen 1
    have HB7 := Lib.hid BSA.out.below
    clear kz
    go_wp2
    refine bodyPost_ret (v := .tuple #[fv none 0 0 none 0 0, .int .i64 2]) (by unfold fv; simp [results, Try.results27, go_sem, s0, s1]) rfl ?_
    refine ⟨rfl, ?_⟩
    repeat' (first | exact HB7.out | refine bl_alloc ?_ _ | refine bse ?_ (by first | assumption | exact Nat.le_refl _) _ _)
set_option maxHeartbeats 4000000 in
set_option maxRecDepth 100000 in
theorem rhits_bad2 (w : World) {m o h : Int} (hb : o < 1 ∨ 1 ≤ o ∧ 10 < o ∨ 1 ≤ o ∧ o ≤ 10 ∧ m < 0 ∨ 1 ≤ o ∧ o ≤ 10 ∧ 0 ≤ m ∧ 10 < m) :
    Calls Try.prog 27 #[.agg (gc 2 m o), .int .i64 h] w fun e w' => Err e 2 ∧ Below w.heap.size w w' := by
  have BS0 := Lib.hid (boxesG w (gc 2 m o))
  unfold gc at BS0 ⊢
  have hn : h < 0 ∨ 0 ≤ h ∧ m < h ∨ 0 ≤ h ∧ h ≤ m := by omega
  rcases hb with h1 | ⟨h1, h2⟩ | ⟨h1, h2, h3⟩ | ⟨h1, h2, h3, h4⟩
  all_goals
    rcases hn with n1 | ⟨n1, n2⟩ | ⟨n1, n2⟩
  all_goals try (exfalso; omega; done)
  all_goals
    go_enter Try.func27, Try.ntmps27
    go_upto_region 1 with (fail)
    obtain ⟨wa, hwa⟩ : ∃ wa, wa = ((w.alloc (.cells #[.string ⟨#[]⟩, .int .i64 2, .int .i64 0, .int .i64 m, .int .i64 o, .int .i64 0, .int .i64 0, .int .i64 0, .int .i64 0, .int .i64 0, .int .i64 0, .int .i64 0, .int .i64 0, .int .i64 0, .int .i64 0, .int .i64 0, .int .i64 0, .int .i64 0, .int .i64 0, .int .i64 0, .slice none 0 0, .slice none 0 0] TG)).alloc (.cells #[.slice none 0 0, .slice none 0 0] TF)) := ⟨_, rfl⟩
    change Code.wp _ _ _ _ ((w.alloc (.cells #[.string ⟨#[]⟩, .int .i64 2, .int .i64 0, .int .i64 m, .int .i64 o, .int .i64 0, .int .i64 0, .int .i64 0, .int .i64 0, .int .i64 0, .int .i64 0, .int .i64 0, .int .i64 0, .int .i64 0, .int .i64 0, .int .i64 0, .int .i64 0, .int .i64 0, .int .i64 0, .int .i64 0, .slice none 0 0, .slice none 0 0] TG)).alloc (.cells #[.slice none 0 0, .slice none 0 0] TF))
    rw [← hwa] at BS0 ⊢
    obtain ⟨gb, hgb⟩ : ∃ b, b = w.heap.size := ⟨_, rfl⟩
    obtain ⟨z, hz⟩ : ∃ b, b = w.heap.size + 1 := ⟨_, rfl⟩
    have hzw : w.heap.size ≤ z := by omega
    have hgz : gb ≠ z := by omega
    have bs0 := BS0.out
    rw [← hgb, ← show z = gb + 1 by omega] at bs0
    rw [show (Value.pointer (some ⟨w.heap.size, 0, none⟩)) = .pointer (some ⟨gb, 0, none⟩) by rw [hgb], show (Value.pointer (some ⟨w.heap.size + 1, 0, none⟩)) = .pointer (some ⟨z, 0, none⟩) by rw [hz]]
    have BSA := Lib.hid bs0
    clear hwa BS0
    obtain ⟨_, lg, kg⟩ := bs0.get (.tail _ (.head _))
    have q1 : wa.cell? ⟨gb, 1, none⟩ = some (.int .i64 2) := kg.cell 1
    have q3 : wa.cell? ⟨gb, 3, none⟩ = some (.int .i64 m) := kg.cell 3
    have q4 : wa.cell? ⟨gb, 4, none⟩ = some (.int .i64 o) := kg.cell 4
    clear kg bs0 hgb hz
    obtain ⟨_, lz, kz⟩ := BSA.out.get (.head _)
    have s0 : wa.cell? ⟨z, 0, none⟩ = some (.slice none 0 0) := kz.cell 0
    have s1 : wa.cell? ⟨z, 1, none⟩ = some (.slice none 0 0) := kz.cell 1
    have f0 : wa.frozen? ⟨z, 0, none⟩ = false := kz.frozen 0
    have f1 : wa.frozen? ⟨z, 1, none⟩ = false := kz.frozen 1
    have HB7 := Lib.hid BSA.out.below
    clear kz
    go_wp2
    refine bodyPost_ret (v := .tuple #[fv none 0 0 none 0 0, .int .i64 2]) (by unfold fv; simp [results, Try.results27, go_sem, s0, s1]) rfl ?_
    refine ⟨rfl, ?_⟩
    repeat' (first | exact HB7.out | refine bl_alloc ?_ _ | refine bse ?_ (by first | assumption | exact Nat.le_refl _) _ _)
set_option maxHeartbeats 4000000 in
set_option maxRecDepth 100000 in
theorem rhits_bad3 (w : World) {m o h k : Int} (hb : k ≠ 1 ∧ k ≠ 2) :
    Calls Try.prog 27 #[.agg (gc k m o), .int .i64 h] w fun e w' => Err e 7 ∧ Below w.heap.size w w' := by
  have BS0 := Lib.hid (boxesG w (gc k m o))
  unfold gc at BS0 ⊢
  have e1 : (k == 1) = false := by simp [hb.1]
  have e2 : (k == 2) = false := by simp [hb.2]
  clear hb
  have hn : h < 0 ∨ 0 ≤ h ∧ m < h ∨ 0 ≤ h ∧ h ≤ m := by omega
  skip
  all_goals
    rcases hn with n1 | ⟨n1, n2⟩ | ⟨n1, n2⟩
  all_goals try (exfalso; omega; done)
  all_goals
    go_enter Try.func27, Try.ntmps27
    go_upto_region 1 with (fail)
    obtain ⟨wa, hwa⟩ : ∃ wa, wa = ((w.alloc (.cells #[.string ⟨#[]⟩, .int .i64 k, .int .i64 0, .int .i64 m, .int .i64 o, .int .i64 0, .int .i64 0, .int .i64 0, .int .i64 0, .int .i64 0, .int .i64 0, .int .i64 0, .int .i64 0, .int .i64 0, .int .i64 0, .int .i64 0, .int .i64 0, .int .i64 0, .int .i64 0, .int .i64 0, .slice none 0 0, .slice none 0 0] TG)).alloc (.cells #[.slice none 0 0, .slice none 0 0] TF)) := ⟨_, rfl⟩
    change Code.wp _ _ _ _ ((w.alloc (.cells #[.string ⟨#[]⟩, .int .i64 k, .int .i64 0, .int .i64 m, .int .i64 o, .int .i64 0, .int .i64 0, .int .i64 0, .int .i64 0, .int .i64 0, .int .i64 0, .int .i64 0, .int .i64 0, .int .i64 0, .int .i64 0, .int .i64 0, .int .i64 0, .int .i64 0, .int .i64 0, .int .i64 0, .slice none 0 0, .slice none 0 0] TG)).alloc (.cells #[.slice none 0 0, .slice none 0 0] TF))
    rw [← hwa] at BS0 ⊢
    obtain ⟨gb, hgb⟩ : ∃ b, b = w.heap.size := ⟨_, rfl⟩
    obtain ⟨z, hz⟩ : ∃ b, b = w.heap.size + 1 := ⟨_, rfl⟩
    have hzw : w.heap.size ≤ z := by omega
    have hgz : gb ≠ z := by omega
    have bs0 := BS0.out
    rw [← hgb, ← show z = gb + 1 by omega] at bs0
    rw [show (Value.pointer (some ⟨w.heap.size, 0, none⟩)) = .pointer (some ⟨gb, 0, none⟩) by rw [hgb], show (Value.pointer (some ⟨w.heap.size + 1, 0, none⟩)) = .pointer (some ⟨z, 0, none⟩) by rw [hz]]
    have BSA := Lib.hid bs0
    clear hwa BS0
    obtain ⟨_, lg, kg⟩ := bs0.get (.tail _ (.head _))
    have q1 : wa.cell? ⟨gb, 1, none⟩ = some (.int .i64 k) := kg.cell 1
    have q3 : wa.cell? ⟨gb, 3, none⟩ = some (.int .i64 m) := kg.cell 3
    have q4 : wa.cell? ⟨gb, 4, none⟩ = some (.int .i64 o) := kg.cell 4
    clear kg bs0 hgb hz
    obtain ⟨_, lz, kz⟩ := BSA.out.get (.head _)
    have s0 : wa.cell? ⟨z, 0, none⟩ = some (.slice none 0 0) := kz.cell 0
    have s1 : wa.cell? ⟨z, 1, none⟩ = some (.slice none 0 0) := kz.cell 1
    have f0 : wa.frozen? ⟨z, 0, none⟩ = false := kz.frozen 0
    have f1 : wa.frozen? ⟨z, 1, none⟩ = false := kz.frozen 1
    have HB7 := Lib.hid BSA.out.below
    clear kz
    go_wp2
    refine bodyPost_ret (v := .tuple #[fv none 0 0 none 0 0, .int .i64 7]) (by unfold fv; simp [results, Try.results27, go_sem, s0, s1]) rfl ?_
    refine ⟨rfl, ?_⟩
    repeat' (first | exact HB7.out | refine bl_alloc ?_ _ | refine bse ?_ (by first | assumption | exact Nat.le_refl _) _ _)
set_option maxHeartbeats 4000000 in
set_option maxRecDepth 100000 in
theorem rhits_none1 (w : World) {m o : Nat} {h : Int} (hm : m ≤ o) (ho : o ≤ 80) (hh : h < 0 ∨ 0 ≤ h ∧ (m : Int) < h) :
    Calls Try.prog 27 #[.agg (gc 1 m o), .int .i64 h] w fun e w' => Gw w' e (0 / Nat.gcd 0 1) (1 / Nat.gcd 0 1) 0 ∧ Below w.heap.size w w' := by
  have BS0 := Lib.hid (boxesG w (gc 1 m o))
  have HOF := Lib.hid fun w' => one55_any w' (n := 0) (by omega)
  have Q64 := Lib.hid (show L32 (0 / Nat.gcd 0 1) ≤ 64 from small64 (by decide))
  have R64 := Lib.hid (show L32 (1 / Nat.gcd 0 1) ≤ 64 from small64 (by decide))
  obtain ⟨qa, hqa⟩ : ∃ v, v = 0 / Nat.gcd 0 1 := ⟨_, rfl⟩
  obtain ⟨qb, hqb⟩ : ∃ v, v = 1 / Nat.gcd 0 1 := ⟨_, rfl⟩
  rw [← hqa] at Q64
  rw [← hqb] at R64
  rw [← hqa, ← hqb] at HOF ⊢
  clear hqa hqb
  unfold gc at BS0 ⊢
  rcases hh with h1 | ⟨h1, h2⟩
  all_goals
    go_enter Try.func27, Try.ntmps27
    go_upto_region 1 with (fail)
    obtain ⟨wa, hwa⟩ : ∃ wa, wa = ((w.alloc (.cells #[.string ⟨#[]⟩, .int .i64 1, .int .i64 0, .int .i64 (m : Int), .int .i64 (o : Int), .int .i64 0, .int .i64 0, .int .i64 0, .int .i64 0, .int .i64 0, .int .i64 0, .int .i64 0, .int .i64 0, .int .i64 0, .int .i64 0, .int .i64 0, .int .i64 0, .int .i64 0, .int .i64 0, .int .i64 0, .slice none 0 0, .slice none 0 0] TG)).alloc (.cells #[.slice none 0 0, .slice none 0 0] TF)) := ⟨_, rfl⟩
    change Code.wp _ _ _ _ ((w.alloc (.cells #[.string ⟨#[]⟩, .int .i64 1, .int .i64 0, .int .i64 (m : Int), .int .i64 (o : Int), .int .i64 0, .int .i64 0, .int .i64 0, .int .i64 0, .int .i64 0, .int .i64 0, .int .i64 0, .int .i64 0, .int .i64 0, .int .i64 0, .int .i64 0, .int .i64 0, .int .i64 0, .int .i64 0, .int .i64 0, .slice none 0 0, .slice none 0 0] TG)).alloc (.cells #[.slice none 0 0, .slice none 0 0] TF))
    rw [← hwa] at BS0 ⊢
    obtain ⟨gb, hgb⟩ : ∃ b, b = w.heap.size := ⟨_, rfl⟩
    obtain ⟨z, hz⟩ : ∃ b, b = w.heap.size + 1 := ⟨_, rfl⟩
    have hzw : w.heap.size ≤ z := by omega
    have hgz : gb ≠ z := by omega
    have bs0 := BS0.out
    rw [← hgb, ← show z = gb + 1 by omega] at bs0
    rw [show (Value.pointer (some ⟨w.heap.size, 0, none⟩)) = .pointer (some ⟨gb, 0, none⟩) by rw [hgb], show (Value.pointer (some ⟨w.heap.size + 1, 0, none⟩)) = .pointer (some ⟨z, 0, none⟩) by rw [hz]]
    have BSA := Lib.hid bs0
    clear hwa BS0
    obtain ⟨_, lg, kg⟩ := bs0.get (.tail _ (.head _))
    have q1 : wa.cell? ⟨gb, 1, none⟩ = some (.int .i64 1) := kg.cell 1
    have q3 : wa.cell? ⟨gb, 3, none⟩ = some (.int .i64 (m : Int)) := kg.cell 3
    have q4 : wa.cell? ⟨gb, 4, none⟩ = some (.int .i64 (o : Int)) := kg.cell 4
    clear kg bs0 hgb hz
    go_wp2_with fail
    refine (HOF.out _).mono ?_
    rintro e w5 ⟨⟨Da', ca', Db', cb', rfl, hca, hcb, hfa, hfb⟩, hb5⟩
    have HZ6 := Lib.hid (BSA.out.get (.head _)).2.1
    have HW6 := Lib.hid BSA.out.below.size
    have BS5 := Lib.hid (BSA.out.on hb5)
    clear hb5 BSA
    obtain ⟨_, lz, kz⟩ := BS5.out.get (.head _)
    have s0 : w5.cell? ⟨z, 0, none⟩ = some (.slice none 0 0) := kz.cell 0
    have s1 : w5.cell? ⟨z, 1, none⟩ = some (.slice none 0 0) := kz.cell 1
    have f0 : w5.frozen? ⟨z, 0, none⟩ = false := kz.frozen 0
    have f1 : w5.frozen? ⟨z, 1, none⟩ = false := kz.frozen 1
    have HB7 := Lib.hid BS5.out.below
    clear kz
    obtain ⟨l1, hl1⟩ : ∃ l, l = L32 (qa) := ⟨_, rfl⟩
    obtain ⟨l2, hl2⟩ : ∃ l, l = L32 (qb) := ⟨_, rfl⟩
    rw [← hl1] at hca Q64 ⊢
    rw [← hl2] at hcb R64 ⊢
    have HL1 := Lib.hid hl1
    have HL2 := Lib.hid hl2
    have HCA := Lib.hid hca
    have HCB := Lib.hid hcb
    have HFA := Lib.hid hfa
    have HFB := Lib.hid hfb
    clear hl1 hl2 hca hcb hfa hfb
    unfold fv
    go_wp2
    refine bodyPost_ret (v := .tuple #[fv Da' l1 ca' Db' l2 cb', .int .i64 0]) (by unfold fv; simp [results, Try.results27, go_sem, s0, s1]) rfl ?_
    refine ⟨⟨Da', l1, ca', Db', l2, cb', rfl, Nat.le_trans Q64.out (by omega), Nat.le_trans R64.out (by omega), HL1.out, HL2.out, ?_, ?_⟩, ?_⟩
    · exact (HCA.out.set_ HFA.out HZ6.out _ _).set_ HFA.out HZ6.out _ _
    · exact (HCB.out.set_ HFB.out HZ6.out _ _).set_ HFB.out HZ6.out _ _
    · exact bse (bse HB7.out hzw _ _) hzw _ _
set_option maxHeartbeats 4000000 in
set_option maxRecDepth 100000 in
theorem rhits_none2 (w : World) {m o : Nat} {h : Int} (ho1 : 1 ≤ o) (ho : o ≤ 10) (hm : m ≤ 10) (hh : h < 0 ∨ 0 ≤ h ∧ (m : Int) < h) :
    Calls Try.prog 27 #[.agg (gc 2 m o), .int .i64 h] w fun e w' => Gw w' e (0 / Nat.gcd 0 1) (1 / Nat.gcd 0 1) 0 ∧ Below w.heap.size w w' := by
  have BS0 := Lib.hid (boxesG w (gc 2 m o))
  have HOF := Lib.hid fun w' => one55_any w' (n := 0) (by omega)
  have Q64 := Lib.hid (show L32 (0 / Nat.gcd 0 1) ≤ 64 from small64 (by decide))
  have R64 := Lib.hid (show L32 (1 / Nat.gcd 0 1) ≤ 64 from small64 (by decide))
  obtain ⟨qa, hqa⟩ : ∃ v, v = 0 / Nat.gcd 0 1 := ⟨_, rfl⟩
  obtain ⟨qb, hqb⟩ : ∃ v, v = 1 / Nat.gcd 0 1 := ⟨_, rfl⟩
  rw [← hqa] at Q64
  rw [← hqb] at R64
  rw [← hqa, ← hqb] at HOF ⊢
  clear hqa hqb
  unfold gc at BS0 ⊢
  rcases hh with h1 | ⟨h1, h2⟩
  all_goals
    go_enter Try.func27, Try.ntmps27
    go_upto_region 1 with (fail)
    obtain ⟨wa, hwa⟩ : ∃ wa, wa = ((w.alloc (.cells #[.string ⟨#[]⟩, .int .i64 2, .int .i64 0, .int .i64 (m : Int), .int .i64 (o : Int), .int .i64 0, .int .i64 0, .int .i64 0, .int .i64 0, .int .i64 0, .int .i64 0, .int .i64 0, .int .i64 0, .int .i64 0, .int .i64 0, .int .i64 0, .int .i64 0, .int .i64 0, .int .i64 0, .int .i64 0, .slice none 0 0, .slice none 0 0] TG)).alloc (.cells #[.slice none 0 0, .slice none 0 0] TF)) := ⟨_, rfl⟩
    change Code.wp _ _ _ _ ((w.alloc (.cells #[.string ⟨#[]⟩, .int .i64 2, .int .i64 0, .int .i64 (m : Int), .int .i64 (o : Int), .int .i64 0, .int .i64 0, .int .i64 0, .int .i64 0, .int .i64 0, .int .i64 0, .int .i64 0, .int .i64 0, .int .i64 0, .int .i64 0, .int .i64 0, .int .i64 0, .int .i64 0, .int .i64 0, .int .i64 0, .slice none 0 0, .slice none 0 0] TG)).alloc (.cells #[.slice none 0 0, .slice none 0 0] TF))
    rw [← hwa] at BS0 ⊢
    obtain ⟨gb, hgb⟩ : ∃ b, b = w.heap.size := ⟨_, rfl⟩
    obtain ⟨z, hz⟩ : ∃ b, b = w.heap.size + 1 := ⟨_, rfl⟩
    have hzw : w.heap.size ≤ z := by omega
    have hgz : gb ≠ z := by omega
    have bs0 := BS0.out
    rw [← hgb, ← show z = gb + 1 by omega] at bs0
    rw [show (Value.pointer (some ⟨w.heap.size, 0, none⟩)) = .pointer (some ⟨gb, 0, none⟩) by rw [hgb], show (Value.pointer (some ⟨w.heap.size + 1, 0, none⟩)) = .pointer (some ⟨z, 0, none⟩) by rw [hz]]
    have BSA := Lib.hid bs0
    clear hwa BS0
    obtain ⟨_, lg, kg⟩ := bs0.get (.tail _ (.head _))
    have q1 : wa.cell? ⟨gb, 1, none⟩ = some (.int .i64 2) := kg.cell 1
    have q3 : wa.cell? ⟨gb, 3, none⟩ = some (.int .i64 (m : Int)) := kg.cell 3
    have q4 : wa.cell? ⟨gb, 4, none⟩ = some (.int .i64 (o : Int)) := kg.cell 4
    clear kg bs0 hgb hz
    go_wp2_with fail
    refine (HOF.out _).mono ?_
    rintro e w5 ⟨⟨Da', ca', Db', cb', rfl, hca, hcb, hfa, hfb⟩, hb5⟩
    have HZ6 := Lib.hid (BSA.out.get (.head _)).2.1
    have HW6 := Lib.hid BSA.out.below.size
    have BS5 := Lib.hid (BSA.out.on hb5)
    clear hb5 BSA
    obtain ⟨_, lz, kz⟩ := BS5.out.get (.head _)
    have s0 : w5.cell? ⟨z, 0, none⟩ = some (.slice none 0 0) := kz.cell 0
    have s1 : w5.cell? ⟨z, 1, none⟩ = some (.slice none 0 0) := kz.cell 1
    have f0 : w5.frozen? ⟨z, 0, none⟩ = false := kz.frozen 0
    have f1 : w5.frozen? ⟨z, 1, none⟩ = false := kz.frozen 1
    have HB7 := Lib.hid BS5.out.below
    clear kz
    obtain ⟨l1, hl1⟩ : ∃ l, l = L32 (qa) := ⟨_, rfl⟩
    obtain ⟨l2, hl2⟩ : ∃ l, l = L32 (qb) := ⟨_, rfl⟩
    rw [← hl1] at hca Q64 ⊢
    rw [← hl2] at hcb R64 ⊢
    have HL1 := Lib.hid hl1
    have HL2 := Lib.hid hl2
    have HCA := Lib.hid hca
    have HCB := Lib.hid hcb
    have HFA := Lib.hid hfa
    have HFB := Lib.hid hfb
    clear hl1 hl2 hca hcb hfa hfb
    unfold fv
    go_wp2
    refine bodyPost_ret (v := .tuple #[fv Da' l1 ca' Db' l2 cb', .int .i64 0]) (by unfold fv; simp [results, Try.results27, go_sem, s0, s1]) rfl ?_
    refine ⟨⟨Da', l1, ca', Db', l2, cb', rfl, Nat.le_trans Q64.out (by omega), Nat.le_trans R64.out (by omega), HL1.out, HL2.out, ?_, ?_⟩, ?_⟩
    · exact (HCA.out.set_ HFA.out HZ6.out _ _).set_ HFA.out HZ6.out _ _
    · exact (HCB.out.set_ HFB.out HZ6.out _ _).set_ HFB.out HZ6.out _ _
    · exact bse (bse HB7.out hzw _ _) hzw _ _
set_option maxHeartbeats 8000000 in
set_option maxRecDepth 100000 in
theorem rhits_choose (w : World) {m o x y : Nat} {h : Int} (hm : m ≤ o) (ho : o ≤ 80) (hh0 : 0 ≤ h) (hh : h ≤ m) (hx : x = hc m o h) (hy : y = cb o m) :
    Calls Try.prog 27 #[.agg (gc 1 m o), .int .i64 h] w fun e w' => Res w.heap.size w' e (x / Nat.gcd x y) (y / Nat.gcd x y) ∧ Below w.heap.size w w' := by
  have BS0 := Lib.hid (boxesG w (gc 1 m o))
  have hw1 : IntKind.i64.wrap ((o : Int) - (m : Int)) = ((o - m : Nat) : Int) := by rw [IntWalk.i64_in _ (by omega)]; omega
  obtain ⟨q, hq⟩ : ∃ q, q = (m : Int) - h := ⟨_, rfl⟩
  have hw2 : IntKind.i64.wrap ((m : Int) - h) = q := by rw [IntWalk.i64_in _ (by omega), hq]
  have k1 := fun w' => rch_any w' (n := m) (by omega) h
  have k2 := fun w' => rch_any w' (n := o - m) (by omega) q
  have k3 := fun w' => rch_any w' (n := o) ho (m : Int)
  rw [show cz o (m : Int) = y by unfold cz; rw [if_pos (by omega), hy]; rfl] at k3
  obtain ⟨X, hX⟩ : ∃ v, v = cz m h := ⟨_, rfl⟩
  obtain ⟨Y, hY⟩ : ∃ v, v = cz (o - m) q := ⟨_, rfl⟩
  have HXY := hc_len (m := m) (o := o) (by omega) ho h
  have HX := Lib.hid (show L32 X ≤ 64 by rw [hX]; exact Nat.le_trans (cz_len (by omega) h) (by omega))
  have HY := Lib.hid (show L32 Y ≤ 64 by rw [hY]; exact Nat.le_trans (cz_len (by omega) q) (by omega))
  have HPE : Hid (x = X * Y) := Lib.hid (by rw [hx, hX, hY, hq]; rfl)
  rw [← hx] at HXY
  have HP := Lib.hid (show L32 (X * Y) ≤ 64 by rw [← show x = X * Y from HPE.out]; omega)
  have HX64 := Lib.hid (show L32 x ≤ 64 by omega)
  have HY64 := Lib.hid (show L32 y ≤ 64 by rw [hy]; exact Nat.le_trans (cb_len ho hm) (by omega))
  have HY0 := Lib.hid (show 0 < y by rw [hy]; exact cb_pos hm)
  obtain ⟨om, hom⟩ : ∃ q, q = o - m := ⟨_, rfl⟩
  rw [← hX] at k1
  rw [← hY] at k2
  rw [← hom] at hw1 k2
  have K1 := Lib.hid k1
  have K2 := Lib.hid k2
  have K3 := Lib.hid k3
  obtain ⟨qa, hqa⟩ : ∃ v, v = x / Nat.gcd x y := ⟨_, rfl⟩
  obtain ⟨qb, hqb⟩ : ∃ v, v = y / Nat.gcd x y := ⟨_, rfl⟩
  rw [← hqa, ← hqb]
  have HQA := Lib.hid hqa
  have HQB := Lib.hid hqb
  have g1 : (h < 0) = False := eq_false (by omega)
  have g2 : ((m : Int) < h) = False := eq_false (by omega)
  have g3 : ((o : Int) < (m : Int)) = False := eq_false (by omega)
  have g4 : ((80 : Int) < (o : Int)) = False := eq_false (by omega)
  clear k1 k2 k3 hx hy hqa hqb hX hY HXY hq hom hh hh0 hm ho
  unfold gc at BS0 ⊢
  go_enter Try.func27, Try.ntmps27
  go_upto_region 1 with (fail)
  obtain ⟨wa, hwa⟩ : ∃ wa, wa = ((w.alloc (.cells #[.string ⟨#[]⟩, .int .i64 1, .int .i64 0, .int .i64 (m : Int), .int .i64 (o : Int), .int .i64 0, .int .i64 0, .int .i64 0, .int .i64 0, .int .i64 0, .int .i64 0, .int .i64 0, .int .i64 0, .int .i64 0, .int .i64 0, .int .i64 0, .int .i64 0, .int .i64 0, .int .i64 0, .int .i64 0, .slice none 0 0, .slice none 0 0] TG)).alloc (.cells #[.slice none 0 0, .slice none 0 0] TF)) := ⟨_, rfl⟩
  change Code.wp _ _ _ _ ((w.alloc (.cells #[.string ⟨#[]⟩, .int .i64 1, .int .i64 0, .int .i64 (m : Int), .int .i64 (o : Int), .int .i64 0, .int .i64 0, .int .i64 0, .int .i64 0, .int .i64 0, .int .i64 0, .int .i64 0, .int .i64 0, .int .i64 0, .int .i64 0, .int .i64 0, .int .i64 0, .int .i64 0, .int .i64 0, .int .i64 0, .slice none 0 0, .slice none 0 0] TG)).alloc (.cells #[.slice none 0 0, .slice none 0 0] TF))
  rw [← hwa] at BS0 ⊢
  obtain ⟨gb, hgb⟩ : ∃ b, b = w.heap.size := ⟨_, rfl⟩
  obtain ⟨z, hz⟩ : ∃ b, b = w.heap.size + 1 := ⟨_, rfl⟩
  have hzw : w.heap.size ≤ z := by omega
  have hgz : gb ≠ z := by omega
  have bs0 := BS0.out
  rw [← hgb, ← show z = gb + 1 by omega] at bs0
  rw [show (Value.pointer (some ⟨w.heap.size, 0, none⟩)) = .pointer (some ⟨gb, 0, none⟩) by rw [hgb], show (Value.pointer (some ⟨w.heap.size + 1, 0, none⟩)) = .pointer (some ⟨z, 0, none⟩) by rw [hz]]
  have BSA := Lib.hid bs0
  clear hwa BS0
  obtain ⟨_, lg, kg⟩ := bs0.get (.tail _ (.head _))
  have q1 : wa.cell? ⟨gb, 1, none⟩ = some (.int .i64 1) := kg.cell 1
  have q3 : wa.cell? ⟨gb, 3, none⟩ = some (.int .i64 (m : Int)) := kg.cell 3
  have q4 : wa.cell? ⟨gb, 4, none⟩ = some (.int .i64 (o : Int)) := kg.cell 4
  clear kg bs0 hgb hz
  have HC1 : Hid (∀ w', Below wa.heap.size wa w' → Calls Try.prog 61 #[.int .i64 (m : Int), .int .i64 h] w' fun e w'' => ∃ (D : Option Addr) (l c : Nat), e = .returned (.agg #[.slice D l c]) ∧ Hid (l = L32 (X)) ∧ Cells w'' D l (Lm (d32 (X))) ∧ Fresh w'.heap.size D ∧ Below w'.heap.size w' w'' ∧ Below wa.heap.size wa w'') := Lib.hid fun w' hw => by
    refine (K1.out w').mono ?_
    rintro e w'' ⟨⟨D, l, c, rfl, h1, h2, h3⟩, hb⟩
    exact ⟨D, l, c, rfl, Lib.hid h1, h2, h3, hb, Below.on hw hb⟩
  have HC2 : Hid (∀ w', Below wa.heap.size wa w' → Calls Try.prog 61 #[.int .i64 (om : Int), .int .i64 q] w' fun e w'' => ∃ (D : Option Addr) (l c : Nat), e = .returned (.agg #[.slice D l c]) ∧ Hid (l = L32 (Y)) ∧ Cells w'' D l (Lm (d32 (Y))) ∧ Fresh w'.heap.size D ∧ Below w'.heap.size w' w'' ∧ Below wa.heap.size wa w'') := Lib.hid fun w' hw => by
    refine (K2.out w').mono ?_
    rintro e w'' ⟨⟨D, l, c, rfl, h1, h2, h3⟩, hb⟩
    exact ⟨D, l, c, rfl, Lib.hid h1, h2, h3, hb, Below.on hw hb⟩
  have HC3 : Hid (∀ w', Below wa.heap.size wa w' → Calls Try.prog 61 #[.int .i64 (o : Int), .int .i64 (m : Int)] w' fun e w'' => ∃ (D : Option Addr) (l c : Nat), e = .returned (.agg #[.slice D l c]) ∧ Hid (l = L32 (y)) ∧ Cells w'' D l (Lm (d32 (y))) ∧ Fresh w'.heap.size D ∧ Below w'.heap.size w' w'' ∧ Below wa.heap.size wa w'') := Lib.hid fun w' hw => by
    refine (K3.out w').mono ?_
    rintro e w'' ⟨⟨D, l, c, rfl, h1, h2, h3⟩, hb⟩
    exact ⟨D, l, c, rfl, Lib.hid h1, h2, h3, hb, Below.on hw hb⟩
  have HMU : Hid (∀ w' D1 l1 c1 D2 l2 c2, Hid (l1 = L32 X) → Cells w' D1 l1 (Lm (d32 X)) → Hid (l2 = L32 Y) → Cells w' D2 l2 (Lm (d32 Y)) → Below wa.heap.size wa w' → Calls Try.prog 41 #[.agg #[.slice D1 l1 c1], .agg #[.slice D2 l2 c2]] w' fun e w'' => ∃ (D : Option Addr) (l c : Nat), e = .returned (.agg #[.slice D l c]) ∧ Hid (l = L32 (x)) ∧ Cells w'' D l (Lm (d32 (x))) ∧ Fresh w'.heap.size D ∧ Below w'.heap.size w' w'' ∧ Below wa.heap.size wa w'') := Lib.hid fun w' D1 l1 c1 D2 l2 c2 hl1 h1 hl2 h2 hw => by
    refine (rmul55_any (x := X) (y := Y) (by rw [hl1.out]; exact HX.out) (by rw [hl2.out]; exact HY.out) hl1.out hl2.out h1 h2 HP.out).mono ?_
    rintro e w'' ⟨⟨D, l, c, rfl, h3, h4, h5⟩, hb⟩
    rw [← HPE.out] at h3 h4
    exact ⟨D, l, c, rfl, Lib.hid h3, h4, h5, hb, Below.on hw hb⟩
  have HMK : Hid (∀ w' D1 l1 c1 D2 l2 c2, Hid (l1 = L32 x) → Cells w' D1 l1 (Lm (d32 x)) → Hid (l2 = L32 y) → Cells w' D2 l2 (Lm (d32 y)) → Below wa.heap.size wa w' → Calls Try.prog 31 #[.agg #[.slice D1 l1 c1], .agg #[.slice D2 l2 c2]] w' fun e w'' => (∃ Da la ca Db lb' cb', e = .returned (.tuple #[.agg #[.slice Da la ca, .slice Db lb' cb'], .int .i64 0]) ∧ Hid (la = L32 qa) ∧ Hid (lb' = L32 qb) ∧ la ≤ ca ∧ lb' ≤ cb' ∧ Cells w'' Da la (Lm (d32 qa)) ∧ Cells w'' Db lb' (Lm (d32 qb)) ∧ Fresh w'.heap.size Da ∧ Fresh w'.heap.size Db) ∧ Below w'.heap.size w' w'' ∧ Below wa.heap.size wa w'') := Lib.hid fun w' D1 l1 c1 D2 l2 c2 hl1 h1 hl2 h2 hw => by
    refine (rmake_any (x := x) (y := y) (by rw [hl1.out]; exact HX64.out) (by rw [hl2.out]; exact HY64.out) hl1.out hl2.out h1 h2 HY0.out).mono ?_
    rintro e w'' ⟨⟨Da, ca, Db, cb', rfl, hla, hlb, hca, hcb, hfa, hfb⟩, hb⟩
    rw [← HQA.out] at hla hca ⊢
    rw [← HQB.out] at hlb hcb ⊢
    exact ⟨⟨Da, _, ca, Db, _, cb', rfl, Lib.hid rfl, Lib.hid rfl, hla, hlb, hca, hcb, hfa, hfb⟩, hb, Below.on hw hb⟩
  have HALL : Hid (∀ w', Below wa.heap.size wa w' → w'.cell? ⟨gb, 3, none⟩ = some (.int .i64 (m : Int)) ∧ w'.cell? ⟨gb, 4, none⟩ = some (.int .i64 (o : Int))) := Lib.hid fun w' hw => ⟨((BSA.out.on hw).get (.tail _ (.head _))).2.2.cell 3, ((BSA.out.on hw).get (.tail _ (.head _))).2.2.cell 4⟩
  have A0 : Below wa.heap.size wa wa.drew := (Below.refl _ _).drew
  clear K1 K2 K3
  go_upto_region 8 with (fail)
  go_region_held3 (fun w' => w'.cell? ⟨gb, 3, none⟩ = some (.int .i64 (m : Int)) ∧ w'.cell? ⟨gb, 4, none⟩ = some (.int .i64 (o : Int)))
    (first
      | exact ⟨cell_put (cell_put h8.1 hgz) hgz, cell_put (cell_put h8.2 hgz) hgz⟩
      | exact ⟨cell_put h8.1 hgz, cell_put h8.2 hgz⟩
      | exact HALL.out _ (by assumption))
    (first
      | (go_at_call 61; (with_reducible refine (HC1.out _ ?_).mono ?_); (first | assumption); rintro e1 v1 ⟨D1, l1, c1, rfl, hl1, hc1, hf1, hb1, t1⟩)
      | (go_at_call 61; (with_reducible refine (HC2.out _ ?_).mono ?_); (first | assumption); rintro e2 v2 ⟨D2, l2, c2, rfl, hl2, hc2, hf2, hb2, t2⟩; have hc12 := hc1.below hb2)
      | (go_at_call 41; (with_reducible refine (HMU.out _ _ _ _ _ _ _ ?_ ?_ ?_ ?_ ?_).mono ?_); (first | assumption); (first | assumption); (first | assumption); (first | assumption); (first | assumption); rintro e3 v3 ⟨D3, l3, c3, rfl, hl3, hc3, hf3, hb3, t3⟩)
      | (go_at_call 61; (with_reducible refine (HC3.out _ ?_).mono ?_); (first | assumption); rintro e4 v4 ⟨D4, l4, c4, rfl, hl4, hc4, hf4, hb4, t4⟩; have hc34 := hc3.below hb4)
      | (go_at_call 31; (with_reducible refine (HMK.out _ _ _ _ _ _ _ ?_ ?_ ?_ ?_ ?_).mono ?_); (first | assumption); (first | assumption); (first | assumption); (first | assumption); (first | assumption); rintro e6 w8 ⟨⟨Da, la, ca, Db, lb', cb', rfl, hla, hlb, hl1, hl2, hca, hcb, hfa, hfb⟩, hb6, t6⟩; have s6 : wa.drew.heap.size ≤ v4.heap.size := t4.size; have h8 := HALL.out _ t6; have g6 : w8.cell? ⟨z, 0, none⟩ = some (.slice none 0 0) := ((BSA.out.on t6).get (.head _)).2.2.cell 0; have g7 : w8.cell? ⟨z, 1, none⟩ = some (.slice none 0 0) := ((BSA.out.on t6).get (.head _)).2.2.cell 1; have h6 : w8.frozen? ⟨z, 0, none⟩ = false := ((BSA.out.on t6).get (.head _)).2.2.frozen 0; have h7 : w8.frozen? ⟨z, 1, none⟩ = false := ((BSA.out.on t6).get (.head _)).2.2.frozen 1)
      | fail)
  all_goals
    have HB6 := Lib.hid (BSA.out.on t6).below
    have LZ := Lib.hid (Nat.lt_of_lt_of_le (BSA.out.get (.head _)).2.1 A0.size)
    have LW := Lib.hid BSA.out.below.size
    go_wp2
    refine bodyPost_ret (v := .tuple #[.agg #[.slice Da la ca, .slice Db lb' cb'], .int .i64 0]) (by simp [results, Try.results27, go_sem, g6, g7]) rfl ?_
    refine ⟨⟨Da, ca, Db, cb', by rw [← hla.out, ← hlb.out]; rfl, by rw [← hla.out]; exact hl1, by rw [← hlb.out]; exact hl2, ?_, ?_, hfa.mono (Nat.le_trans (Nat.le_trans LW.out A0.size) s6), hfb.mono (Nat.le_trans (Nat.le_trans LW.out A0.size) s6)⟩, bse (bse HB6.out hzw _ _) hzw _ _⟩
    · rw [← hla.out]
      exact (hca.set_ hfa (Nat.lt_of_lt_of_le LZ.out s6) _ _).set_ hfa (Nat.lt_of_lt_of_le LZ.out s6) _ _
    · rw [← hlb.out]
      exact (hcb.set_ hfb (Nat.lt_of_lt_of_le LZ.out s6) _ _).set_ hfb (Nat.lt_of_lt_of_le LZ.out s6) _ _
end Fa
end Go.Proofs.Ytiflmnmkmpjecaa
