/- The walk of the reference's DivMod. -/
import Derived.Test.YtiflmnmkmpjecaaNatRDivide
import Derived.Test.YtiflmnmkmpjecaaNatDivMod
import Derived.Test.YtiflmnmkmpjecaaNatRSum
set_option linter.unusedVariables false
namespace Go.Proofs.Ytiflmnmkmpjecaa
open Go.RowKit

theorem Bq.all {w w' : World} {S T R1 R2 : Value} (h : Bq w w' S T R1 R2) : w'.cell? ⟨w.heap.size, 0, none⟩ = some S ∧ w'.cell? ⟨w.heap.size + 1, 0, none⟩ = some T ∧ Bq w w' S T R1 R2 := ⟨h.facts.1, h.facts.2.1, h⟩
theorem L16_128 {x : Nat} (h : L32 x ≤ 64) : L16 x ≤ 128 := by have := L32_half x; omega
set_option maxHeartbeats 4000000 in
set_option maxRecDepth 100000 in
theorem refDivmod_any {D E : Option Addr} {n m c c' x y : Nat} {w : World} (hn : n ≤ 64) (hm : m ≤ 64) (hnx : n = L32 x) (hmy : m = L32 y) (hx : Cells w D n (Lm (d32 x))) (hy : Cells w E m (Lm (d32 y))) (hy0 : 0 < y) :
    Calls Try.prog 80 #[natv D n c, natv E m c'] w fun e w' => DivRes w.heap.size w' e (x / y) (x % y) ∧ Below w.heap.size w w' := by
  have hvx := Lib.hid (vd_true hn hnx)
  have hvy := Lib.hid (vd_true hm hmy)
  have HX := Lib.hid hnx
  have HY := Lib.hid hmy
  have lx : L16 x ≤ 128 := L16_128 (by omega)
  have ly : L16 y ≤ 128 := L16_128 (by omega)
  have hq64 : L32 (x / y) ≤ 64 := Nat.le_trans (Nt.len_mono (by omega) (Nat.div_le_self x y)) (by show L32 x ≤ 64; omega)
  have hr64 : L32 (x % y) ≤ 64 := Nat.le_trans (Nt.len_mono (by omega) (Nat.mod_le x y)) (by show L32 x ≤ 64; omega)
  have hm0 : 0 < m := by
    rcases Nat.eq_zero_or_pos m with h | h
    · rw [h] at hmy; have := L32_zero.1 hmy.symm; omega
    · exact h
  have HY0 := Lib.hid hy0
  clear hnx hmy hy0
  have hm0i : ((m : Nat) : Int) ≠ 0 := by omega
  have BO0 := Lib.hid (Bq.new w (.slice D n c) (.slice E m c') (.slice none 0 0) (.slice none 0 0))
  unfold natv
  go_enter Try.func80, Try.ntmps80
  go_wp2_with fail
  refine (rvalid_is (by omega) (hx.below BO0.out.below) hvx.out).mono ?_
  rintro e w1 ⟨rfl, hb1⟩
  have BO1 := Lib.hid (BO0.out.on hb1)
  obtain ⟨q0, q1, q2, q3, f2, f3, hlt⟩ := BO1.out.facts
  clear hb1 BO0
  go_wp2_with fail
  refine (rvalid_is (by omega) (hy.below BO1.out.below) hvy.out).mono ?_
  rintro e w2 ⟨rfl, hb1⟩
  clear q0 q1 q2 q3 f2 f3 hlt
  have BO2 := BO1.out.on hb1
  obtain ⟨q0, q1, q2, q3, f2, f3, hlt⟩ := BO2.facts
  clear hb1 BO1
  have hx2 := hx.below BO2.below
  have hy2 := hy.below BO2.below
  have HY0b := HY0.out
  go_upto_region 5 with (fail)
  go_cut [7, 8] (fun s7 s8 wx => ∃ (Dq : Option Addr) (cq : Nat) (Dr : Option Addr) (cr : Nat), s7 = .slice Dq (L16 (x / y)) cq ∧ s8 = .slice Dr (L16 (x % y)) cr ∧ L16 (x / y) ≤ cq ∧ L16 (x % y) ≤ cr ∧ Hid (Cells wx Dq (L16 (x / y)) (Dg (d16 (x / y)))) ∧ Hid (Cells wx Dr (L16 (x % y)) (Dg (d16 (x % y)))) ∧ Hid (Bq w wx (.slice D n c) (.slice E m c') (.slice none 0 0) (.slice none 0 0)))
  case first =>
    have BOd : Bq w w2.drew (.slice D n c) (.slice E m c') (.slice none 0 0) (.slice none 0 0) := BO2.on (bl_drew (Below.refl _ _))
    go_region_held3 (fun w' => w'.cell? ⟨w.heap.size, 0, none⟩ = some (.slice D n c) ∧ w'.cell? ⟨w.heap.size + 1, 0, none⟩ = some (.slice E m c') ∧ Bq w w' (.slice D n c) (.slice E m c') (.slice none 0 0) (.slice none 0 0))
        (first
          | exact Bq.all (by assumption)
          | exact Bq.all (Bq.on (by assumption) (bl_alloc (Below.refl _ _) _)))
        (first
          | (go_at_call_of 79 (Value.agg #[Value.slice D n c]); refine (halves_any (x := x) (by omega) HX.out (Cells.below hx2 ?_)).mono ?_; (first | exact Below.refl _ _ | assumption | exact bl_drew (Below.refl _ _)); rintro e w5 ⟨D5, c5, rfl, hl5, hc5, hf5, hb5⟩; have k05 : Below w2.heap.size w2 w5 := (by first | exact hb5 | exact bl_on (bl_drew (Below.refl _ _)) hb5); have B5 := BO2.on k05)
          | (go_at_call_of 79 (Value.agg #[Value.slice E m c']); refine (halves_any (x := y) (by omega) HY.out (Cells.below hy2 ?_)).mono ?_; (first | exact Below.refl _ _ | assumption | exact bl_drew (Below.refl _ _)); rintro e w6 ⟨D6, c6, rfl, hl6, hc6, hf6, hb6⟩; have B6 := B5.on hb6)
          | (go_at_call 103; refine (rdivide_any (a := x) (b := y) (by omega) (by omega) HY0b rfl rfl (Cells.below hc5 ?_) (Cells.below hc6 ?_)).mono ?_; (first | exact Below.refl _ _ | assumption); (first | exact Below.refl _ _ | assumption); rintro e w7 ⟨D7, c7, D8, c8, rfl, hl7, hl8, hc7, hc8, hf7, hf8, hb7⟩; have B7 := B6.on hb7))
    all_goals
      go_wp2_with fail
      go_meet
      case rel => exact ⟨D7, c7, D8, c8, rfl, rfl, hl7, hl8, hc7, hc8, B7⟩
  case rest =>
    obtain ⟨Dq, cq, Dr, cr, rfl, rfl, hlq, hlr, HCQ, HCR, BO3⟩ := hcut
    clear q0 q1 q2 q3 f2 f3 hlt hx2 hy2 hvx hvy HX HY
    obtain ⟨q0, q1, q2, q3, f2, f3, hlt⟩ := BO3.out.facts
    have lq : L16 (x / y) ≤ 128 := L16_128 hq64
    have lr : L16 (x % y) ≤ 128 := L16_128 hr64
    obtain ⟨q, hq⟩ : ∃ q, q = x / y := ⟨_, rfl⟩
    obtain ⟨r, hr⟩ : ∃ r, r = x % y := ⟨_, rfl⟩
    rw [← hq] at hlq hq64 HCQ lq ⊢
    rw [← hr] at hlr hr64 HCR lr ⊢
    have HQ := Lib.hid hq
    have HR := Lib.hid hr
    clear hq hr BO2
    go_wp2_with fail
    refine (whole_yes (x := q) (by omega) hlq (fit16_len _) HCQ.out hq64).mono ?_
    rintro e w4 ⟨D4, c4, rfl, hl4, hc4, hf4, hb4⟩
    clear q0 q1 q2 q3 f2 f3
    have BO4 := Lib.hid ((BO3.out.on hb4).on (bl_alloc (Below.refl _ _) (.cells #[.slice D4 (L32 q) c4] 32)))
    have BX4 := Lib.hid (Blk.new w4 32 #[.slice D4 (L32 q) c4])
    have HF4 := Lib.hid (hf4.mono (Nat.succ_le_of_lt hlt))
    have HC4 := Lib.hid (hc4.alloc (.cells #[.slice D4 (L32 q) c4] 32))
    have HCR4 := Lib.hid ((HCR.out.below hb4).alloc (.cells #[.slice D4 (L32 q) c4] 32))
    have hs4 := hb4.size
    clear hb4 hc4 hf4 BO3 HCR HCQ
    obtain ⟨q0, q1, q2, q3, f2, f3, hlt4⟩ := BO4.out.facts
    go_wp2_with fail
    refine (whole_yes (x := r) (by omega) hlr (fit16_len _) HCR4.out hr64).mono ?_
    rintro e w5 ⟨D5, c5, rfl, hl5, hc5, hf5, hb5⟩
    clear q0 q1 q2 q3 f2 f3
    have BO5 := Lib.hid ((BO4.out.on hb5).on (bl_alloc (Below.refl _ _) (.cells #[.slice D5 (L32 r) c5] 32)))
    have BX5 := Lib.hid (Blk.new w5 32 #[.slice D5 (L32 r) c5])
    have BX6 := Lib.hid ((BX4.out.keep hb5).alloc (.cells #[.slice D5 (L32 r) c5] 32))
    have HF5 := Lib.hid (hf5.mono (Nat.succ_le_of_lt hlt4))
    have HC5 := Lib.hid (hc5.alloc (.cells #[.slice D5 (L32 r) c5] 32))
    have HC6 := Lib.hid ((HC4.out.below hb5).alloc (.cells #[.slice D5 (L32 r) c5] 32))
    have hs5 := hb5.size
    clear hb5 hc5 hf5 BO4 HC4 HCR4 BX4
    obtain ⟨q0, q1, q2, q3, f2, f3, hlt5⟩ := BO5.out.facts
    have r0 : (w5.alloc (.cells #[.slice D5 (L32 r) c5] 32)).cell? ⟨w4.heap.size, 0, none⟩ = some (.slice D4 (L32 q) c4) := BX6.out.cell 0
    have r1 : (w5.alloc (.cells #[.slice D5 (L32 r) c5] 32)).cell? ⟨w5.heap.size, 0, none⟩ = some (.slice D5 (L32 r) c5) := BX5.out.cell 0
    have hz4 := BX6.out.lt
    rw [World.size_alloc] at hs5
    have n5 : w.heap.size + 1 + 1 ≠ w4.heap.size := by omega
    have n6 : w.heap.size + 1 + 1 + 1 ≠ w4.heap.size := by omega
    have n7 : w.heap.size + 1 + 1 ≠ w5.heap.size := by omega
    have n8 : w.heap.size + 1 + 1 + 1 ≠ w5.heap.size := by omega
    have n1 : w4.heap.size ≠ w.heap.size + 1 + 1 := by omega
    have n2 : w4.heap.size ≠ w.heap.size + 1 + 1 + 1 := by omega
    have n3 : w5.heap.size ≠ w.heap.size + 1 + 1 := by omega
    have n4 : w5.heap.size ≠ w.heap.size + 1 + 1 + 1 := by omega
    go_wp2
    go_region_held3 (fun w' => w'.cell? ⟨w4.heap.size, 0, none⟩ = some (.slice D4 (L32 q) c4) ∧ w'.cell? ⟨w5.heap.size, 0, none⟩ = some (.slice D5 (L32 r) c5) ∧ w'.frozen? ⟨w.heap.size + 1 + 1, 0, none⟩ = false ∧ w'.frozen? ⟨w.heap.size + 1 + 1 + 1, 0, none⟩ = false) (go_keep) (fail)
    all_goals
      go_wp2
      refine bodyPost_ret (v := .tuple #[natv D4 (L32 q) c4, natv D5 (L32 r) c5, .int .i64 0]) (by unfold natv; simp [results, Try.results80, go_sem, q2, q3]) rfl ?_
      have hb8 := ((BO5.out.below.setCell (p := ⟨w.heap.size + 1 + 1, 0, none⟩) (by simp; omega) (.slice D4 (L32 q) c4)).setCell (p := ⟨w.heap.size + 1 + 1 + 1, 0, none⟩) (by simp; omega) (.slice D5 (L32 r) c5)).drew
      rw [← HQ.out, ← HR.out]
      refine ⟨⟨D4, c4, D5, c5, rfl, hl4, hl5, ?_, ?_, HF4.out.mono (by omega), HF5.out.mono (by omega)⟩, hb8⟩
      · exact (HC6.out.set_ HF4.out (by omega) _ _).set_ HF4.out (by omega) _ _
      · exact (HC5.out.set_ HF5.out (by omega) _ _).set_ HF5.out (by omega) _ _
end Go.Proofs.Ytiflmnmkmpjecaa
