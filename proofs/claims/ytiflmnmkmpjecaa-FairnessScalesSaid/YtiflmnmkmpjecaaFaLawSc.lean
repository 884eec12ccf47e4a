/- The law FairnessScales. -/
import Derived.Test.YtiflmnmkmpjecaaFaScQ
import Derived.Test.YtiflmnmkmpjecaaRows
set_option linter.unusedVariables false
namespace Go.Proofs.Ytiflmnmkmpjecaa
open Go.RowKit
namespace Fa
open Fr
set_option maxHeartbeats 16000000 in
set_option maxRecDepth 100000 in
theorem scales_law {W : World} {A B : Option Addr} {n m c c' : Nat} {o p : Nat → Int} {by' : Nat} (hby : by' ≤ 255) (hA : Cells W A n (Iv o)) (hB : Cells W B m (Iv p)) :
    Calls Try.prog 5 #[.slice A n c, .slice B m c', .int .u8 (by' : Int)] W fun e w' => e = .returned (.bool true) ∧ Below W.heap.size W w' := by
  have AW : Hid (∀ w', Calls Try.prog 11 #[] w' fun e w'' => e = .returned (.bool true) ∧ Below w'.heap.size w' w'') := Lib.hid awake_any
  obtain ⟨i0, hi, hz0, hz1, hz2⟩ := info_parts Try.infoI
  by_cases hd : n ≤ 12 ∧ m ≤ 12
  case neg =>
    have hd2 : decide ((12 : Int) < (n : Int)) = true ∨ decide ((12 : Int) < (n : Int)) = false ∧ decide ((12 : Int) < (m : Int)) = true := by
      by_cases h1 : (12 : Int) < (n : Int)
      · exact .inl (decide_eq_true h1)
      · exact .inr ⟨decide_eq_false h1, decide_eq_true (by omega)⟩
    clear hA hB hd
    rcases hd2 with g1 | ⟨g1, g2⟩
    all_goals
      go_enter Try.func5, Try.ntmps5
      go_wp2_with fail
      refine (AW.out _).mono ?_
      rintro e w7 ⟨rfl, hb⟩
      have HB7 := Lib.hid hb
      clear hb
      go_wp2
      go_ret
      exact ⟨rfl, HB7.out⟩
  have hn12 := hd.1
  have t1 : decide ((12 : Int) < (n : Int)) = false := decide_eq_false (by omega)
  have t2 : decide ((12 : Int) < (m : Int)) = false := decide_eq_false (by omega)
  by_cases hg : m = n ∧ Good n o p
  case neg =>
    obtain ⟨y, hy, hk, _⟩ := chi_no (c := c) (c' := c') hd.1 hd.2 hA hB hg
    have HK := Lib.hid hk
    have hyy : ((y : Int) != 0) = true := by simp; omega
    have BS0 := Lib.hid (Bs.nil W)
    clear hk hy hg hd hA hB
    unfold fv at HK
    go_enter Try.func5, Try.ntmps5
    go_wp2_with fail
    (with_reducible refine (HK.out _ BS0.out.below).mono ?_)
    rintro e w2 ⟨rfl, hb⟩
    have HB2 := Lib.hid hb
    clear hb
    go_wp2_with fail
    refine (AW.out _).mono ?_
    rintro e w7 ⟨rfl, hb⟩
    have HB7 := Lib.hid (Below.on (bl_alloc HB2.out (.cells #[.slice none 0 0, .slice none 0 0] TF)) hb)
    clear hb
    go_wp2
    go_ret
    exact ⟨rfl, HB7.out⟩
  obtain ⟨hmn, g⟩ := hg
  obtain rfl : n = m := hmn.symm
  clear hd hmn t2
  obtain ⟨p1, hp1⟩ : ∃ v, v = cN (nt o) (nt p) n / Nat.gcd (cN (nt o) (nt p) n) (cD (nt o) (nt p) n) := ⟨_, rfl⟩
  obtain ⟨q1, hq1⟩ : ∃ v, v = cD (nt o) (nt p) n / Nat.gcd (cN (nt o) (nt p) n) (cD (nt o) (nt p) n) := ⟨_, rfl⟩
  have HK := Lib.hid (chi_gw (c := c) (c' := c') hn12 hA hB g hp1 hq1)
  have GG := Lib.hid g
  have HA := Lib.hid hA
  have HB := Lib.hid hB
  have HP1 := Lib.hid hp1
  have HQ1 := Lib.hid hq1
  have BS0 := Lib.hid (Bs.nil W)
  obtain ⟨mm, hmm⟩ : ∃ v, v = by' % 5 := ⟨_, rfl⟩
  obtain ⟨c5, hc5⟩ : ∃ v, v = mm + 1 := ⟨_, rfl⟩
  have HC5 : Hid (1 ≤ c5 ∧ c5 ≤ 5) := Lib.hid (by omega)
  have r1 : (by' : Int).tmod 5 = (mm : Int) := by rw [hmm]; rfl
  have r2 : IntKind.u8.wrap (mm : Int) = (mm : Int) := by
    have : mm ≤ 4 := by omega
    rcases (show mm = 0 ∨ mm = 1 ∨ mm = 2 ∨ mm = 3 ∨ mm = 4 by omega) with h | h | h | h | h <;> rw [h] <;> decide
  have r3 : IntKind.i64.wrap (mm : Int) = (mm : Int) := IntWalk.i64_in _ (by omega)
  have r4 : IntKind.i64.wrap (1 + (mm : Int)) = (c5 : Int) := by rw [IntWalk.i64_in _ (by omega)]; omega
  clear hA hB hp1 hq1 hmm hc5 hby g
  have t2 := t1
  go_enter Try.func5, Try.ntmps5
  go_wp2_with fail
  (with_reducible refine (HK.out _ BS0.out.below).mono ?_)
  rintro e w2 ⟨⟨D1, l1, y1, E1, m1, k1, rfl, a1, b1'', hl, hm, hc, hd⟩, hb⟩
  have BQ2 := Lib.hid (BS0.out.on hb)
  have bs2 := BQ2.out.alloc TF #[.slice D1 l1 y1, .slice E1 m1 k1]
  have X1 := Lib.hid (hc.alloc (.cells #[.slice D1 l1 y1, .slice E1 m1 k1] TF))
  have Y1 := Lib.hid (hd.alloc (.cells #[.slice D1 l1 y1, .slice E1 m1 k1] TF))
  have b1' := b1''
  have L1 := Lib.hid hl
  have M1 := Lib.hid hm
  obtain ⟨ab, hab⟩ : ∃ b, b = w2.heap.size := ⟨_, rfl⟩
  obtain ⟨wa, hwa⟩ : ∃ wa, wa = w2.alloc (.cells #[.slice D1 l1 y1, .slice E1 m1 k1] TF) := ⟨_, rfl⟩
  rw [← hwa] at bs2 X1 Y1
  rw [← hab] at bs2
  have BSa := Lib.hid bs2
  clear hb hl hm hc hd BS0 BQ2 bs2 HK
  go_wp2
  change Code.wp _ _ _ _ (w2.alloc (.cells #[.slice D1 l1 y1, .slice E1 m1 k1] TF))
  rw [← hwa]
  rw [show (Value.pointer (some ⟨w2.heap.size, 0, none⟩)) = .pointer (some ⟨ab, 0, none⟩) by rw [hab]]
  clear hwa hab
  go_loopw [53, 9, 10, 11, 12] (fun s53 s9 s10 s11 s12 wr => ∃ (k N V : Nat), k ≤ n ∧ s53 = .int .i64 (k : Int) ∧ s9 = .int .i64 (N : Int) ∧ s10 = .int .i64 (V : Int) ∧ Hid (N = nsum (nt o) k ∧ V = nsum (nt p) k) ∧ Hid (RowsS wa wr s11 k (row (k * 1) (Iv fun i => 2 * o i)) s12 k (row (k * 1) (Iv fun i => p i * c5))) ∧ Hid (∀ i, i < k → nt o i ≤ 200000 ∧ nt p i ≤ 200000)) (fun i _ _ _ _ _ => n - (intOf i).toNat)
  case atStart => exact ⟨0, 0, 0, Nat.zero_le _, rfl, rfl, rfl, Lib.hid ⟨rfl, rfl⟩, Lib.hid ⟨World.ownsRow_nil _ _ _ _, World.ownsRow_nil _ _ _ _, fun g hg => by simp [Value.ownBlock] at hg, Lib.hid (Below.refl _ _)⟩, Lib.hid fun i hi => by omega⟩
  case round =>
    obtain ⟨k, N, V, hk, rfl, rfl, rfl, HNV, HR, HSM⟩ := hrel
    have HBW := Lib.hid (BSa.out.on HR.out.bel.out).below
    by_cases hkn : k < n
    · have gk : ((k : Int) < (n : Int)) := by omega
      have i1 : (0 : Int) ≤ (k : Int) := by omega
      have hw5 : IntKind.i64.wrap ((k : Int) + 1) = (k : Int) + 1 := IntWalk.i64_in _ (by omega)
      obtain ⟨b1, o1, hA1, ltA, hcA⟩ := (GG.out.co (HA.out.below BSa.out.below)).dg hkn
      obtain ⟨b4, o4, hB1, ltB, hcB⟩ := (GG.out.cp (HB.out.below BSa.out.below)).dg hkn
      subst hA1 hB1
      have hlt1 := Nat.lt_of_lt_of_le ltA HR.out.bel.out.size
      have hlt4 := Nat.lt_of_lt_of_le ltB HR.out.bel.out.size
      have hc1 := ((bcell HR.out.bel.out).1 _ (o1 + k) ltA).trans hcA
      have hc4 := ((bcell HR.out.bel.out).1 _ (o4 + k) ltB).trans hcB
      have ho1 := GG.out.oi hkn
      have hp1 := GG.out.pi hkn
      obtain ⟨x, hx⟩ : ∃ x, x = nt o k := ⟨_, rfl⟩
      obtain ⟨y, hy⟩ : ∃ y, y = nt p k := ⟨_, rfl⟩
      rw [← hx] at hc1 ho1 hcA
      rw [← hy] at hc4 hp1 hcB
      have HCA : Hid (wa.cell? ⟨b1, o1 + k, none⟩ = some (.int .i64 (x : Int)) ∧ wa.cell? ⟨b4, o4 + k, none⟩ = some (.int .i64 (y : Int)) ∧ b1 < wa.heap.size ∧ b4 < wa.heap.size) := Lib.hid ⟨hcA, hcB, ltA, ltB⟩
      clear hcA hcB ltA ltB
      have HXY := Lib.hid (show x = nt o k ∧ y = nt p k from ⟨hx, hy⟩)
      have HXO := Lib.hid ho1.1
      have HYO := Lib.hid hp1.1
      have HKN := Lib.hid hkn
      have x0 : decide ((x : Int) < 0) = false := decide_eq_false (by omega)
      have y0 : decide ((y : Int) < 0) = false := decide_eq_false (by omega)
      by_cases hsm : x ≤ 200000 ∧ y ≤ 200000
      case neg =>
        have hd2 : decide ((200000 : Int) < (x : Int)) = true ∨ decide ((200000 : Int) < (x : Int)) = false ∧ decide ((200000 : Int) < (y : Int)) = true := by
          by_cases h1 : (200000 : Int) < (x : Int)
          · exact .inl (decide_eq_true h1)
          · exact .inr ⟨decide_eq_false h1, decide_eq_true (by omega)⟩
        clear hsm hx hy ho1 hp1 hk hkn hw5
        rcases hd2 with g1 | ⟨g1, g2⟩
        all_goals
          go_wp2_with fail
          refine (AW.out _).mono ?_
          rintro e w7 ⟨rfl, hb⟩
          have HB7 := Lib.hid (Below.on HBW.out hb)
          clear hb
          go_wp2
          go_ret
          exact ⟨rfl, HB7.out⟩
      have x2 : decide ((200000 : Int) < (x : Int)) = false := decide_eq_false (by omega)
      have y2 : decide ((200000 : Int) < (y : Int)) = false := decide_eq_false (by omega)
      have HS2 := Lib.hid hsm
      have hN2 : N ≤ 12000000 := by rw [HNV.out.1]; have := nsm_le (f := nt o) (B := 1000000) (n := k) fun i hi => (GG.out.oi (by omega)).2; omega
      have hV2 : V ≤ 12000000 := by rw [HNV.out.2]; have := nsm_le (f := nt p) (B := 1000000) (n := k) fun i hi => (GG.out.pi (by omega)).2.2; omega
      obtain ⟨N2, hN⟩ : ∃ v, v = N + x := ⟨_, rfl⟩
      obtain ⟨V2, hV⟩ : ∃ v, v = V + y := ⟨_, rfl⟩
      have hw1 : IntKind.i64.wrap ((N : Int) + (x : Int)) = (N2 : Int) := by rw [IntWalk.i64_in _ (by omega)]; omega
      have hw2 : IntKind.i64.wrap ((V : Int) + (y : Int)) = (V2 : Int) := by rw [IntWalk.i64_in _ (by omega)]; omega
      obtain ⟨X2, hX2⟩ : ∃ v, v = 2 * x := ⟨_, rfl⟩
      obtain ⟨Y2, hY2⟩ : ∃ v, v = y * c5 := ⟨_, rfl⟩
      have hY3 : Y2 ≤ 200000 * 5 := by rw [hY2]; exact Nat.mul_le_mul hsm.2 HC5.out.2
      have r5 : IntKind.i64.wrap (2 * (x : Int)) = (X2 : Int) := by rw [IntWalk.i64_in _ (by omega)]; omega
      have r6 : IntKind.i64.wrap ((y : Int) * (c5 : Int)) = (Y2 : Int) := by rw [show (y : Int) * (c5 : Int) = (Y2 : Int) by rw [hY2]; rfl]; exact IntWalk.i64_in _ (by omega)
      have HROW1 : Hid (row ((k + 1) * 1) (Iv fun i => 2 * o i) = row (k * 1) (Iv fun i => 2 * o i) ++ [.int .i64 (X2 : Int)]) := Lib.hid (by
        rw [Nat.mul_one, Nat.mul_one, row_one]
        show _ ++ [Value.int .i64 (2 * o k)] = _
        rw [HXO.out, hX2]
        rfl)
      have HROW2 : Hid (row ((k + 1) * 1) (Iv fun i => p i * c5) = row (k * 1) (Iv fun i => p i * c5) ++ [.int .i64 (Y2 : Int)]) := Lib.hid (by
        rw [Nat.mul_one, Nat.mul_one, row_one]
        show _ ++ [Value.int .i64 (p k * c5)] = _
        rw [HYO.out, hY2]
        rfl)
      have HNV2 : Hid (N2 = nsum (nt o) (k + 1) ∧ V2 = nsum (nt p) (k + 1)) := Lib.hid ⟨by rw [nsum, hN, HNV.out.1, hx], by rw [nsum, hV, HNV.out.2, hy]⟩
      have HSM2 : Hid (∀ i, i < k + 1 → nt o i ≤ 200000 ∧ nt p i ≤ 200000) := Lib.hid fun i hi => by
        rcases Nat.lt_or_ge i k with h | h
        · exact HSM.out i h
        · obtain rfl : i = k := by omega
          rw [← HXY.out.1, ← HXY.out.2]
          exact HS2.out
      clear hsm hx hy ho1 hp1 hN hV hX2 hY2 hY3 hN2 hV2 HSM HNV hk hkn
      go_upto_region 13 with (fail)
      go_cut [9, 10] (fun s9 s10 wx => s9 = .int .i64 (N2 : Int) ∧ s10 = .int .i64 (V2 : Int) ∧ Hid (Below wr.heap.size wr wx))
      case first =>
        go_quiet (fail)
        go_wp2_with fail
        go_meet
        case rel => exact ⟨rfl, rfl, Lib.hid (by first | exact Below.refl _ _ | exact (Below.refl _ _).drew | exact below_drewN (Below.refl _ _) _)⟩
      obtain ⟨rfl, rfl, HW1⟩ := hcut
      rename World => wq
      have RQ0 := Lib.hid (HR.out.on HW1.out)
      obtain ⟨G1, g1, rfl, _⟩ := own_slice RQ0.out.own1
      obtain ⟨G2, g2, rfl, _⟩ := own_slice RQ0.out.own2
      have RQ := RQ0
      have C1 := Lib.hid (((bcell HW1.out).1 _ _ hlt1).trans hc1)
      have C4 := Lib.hid (((bcell HW1.out).1 _ _ hlt4).trans hc4)
      have HBq := Lib.hid (Below.on HBW.out HW1.out)
      have HALL : Hid (∀ w', Hid (Below wa.heap.size wa w') → w'.cell? ⟨b1, o1 + k, none⟩ = some (.int .i64 (x : Int)) ∧ w'.cell? ⟨b4, o4 + k, none⟩ = some (.int .i64 (y : Int))) := Lib.hid fun w' hw => ⟨((bcell hw.out).1 _ _ HCA.out.2.2.1).trans HCA.out.1, ((bcell hw.out).1 _ _ HCA.out.2.2.2).trans HCA.out.2.1⟩
      have LB1 : Hid (∀ b, (Value.slice G1 k g1).ownBlock = some b → b < wq.heap.size) := Lib.hid fun b hb => (RQ.out.own1.lt b hb).2
      have A0 : Hid (Below wa.heap.size wa wq.drew) := RQ.out.drew.bel
      have szq := RQ.out.bel.out.size
      have hk12 : k ≤ 12 := by have := HKN.out; omega
      clear hw1 hw2 hc1 hlt1 hc4 hlt4 HW1 HR RQ0
      go_upto_region 14 with (fail)
      go_region_held3 (fun w' => w'.cell? ⟨b1, o1 + k, none⟩ = some (.int .i64 (x : Int)) ∧ w'.cell? ⟨b4, o4 + k, none⟩ = some (.int .i64 (y : Int)))
        (first
          | exact HALL.out _ A0
          | exact HALL.out _ (hal A0 _)
          | exact HALL.out _ (hal (hal A0 _) _)
          | exact HALL.out _ R4.bel
          | exact HALL.out _ R3.bel
          | exact HALL.out _ (hal R3.bel _))
        (first
          | (refine step_append_lies _ (by rfl) _ _ _ (by rfl) wa.heap.size 3 i0 _ 1 8 Try.underlying24 hi hz0 hz1 hz2 rfl (by omega) (.slice G1 k g1) k (row (k * 1) (Iv fun i => 2 * o i)) (by rfl) (by first | exact (RQ.out.drew.alloc _).own1 | exact ((RQ.out.drew.alloc _).alloc _).own1) ⟨wq.heap.size, 0, none⟩ 1 1 [.int .i64 (X2 : Int)] (by rfl) (by rfl) (by first | exact fun j u hu => new_cell rfl (by simpa using hu) | exact fun j u hu => new_cell (by simp) (by simpa using hu) | exact fun j u hu => new_cell2 _ rfl (by simpa using hu)) (by intro u hu; simp at hu; subst hu; rfl) (by omega) (by unfold maxLen; omega) (by omega) (by simp; omega) _ rfl ?_; intro gg1 cap1 w3 hown1 hgrow1 hat1 hlt1; have R3 : RowsS wa w3 (.slice (some ⟨gg1, 0, none⟩) (k + 1) cap1) (k + 1) ((row (k * 1) (Iv fun i => 2 * o i)) ++ [.int .i64 (X2 : Int)]) (.slice G2 k g2) k (row (k * 1) (Iv fun i => p i * c5)) := (by first | exact (RQ.out.drew.alloc _).step1 hown1 hgrow1 hat1 | exact ((RQ.out.drew.alloc _).alloc _).step1 hown1 hgrow1 hat1); (first | (have nb2 : w3.cell? ⟨wq.heap.size + 1, 0, none⟩ = some (.int .i64 (Y2 : Int)) := hgrow1.cell (new_cell (w := wq.drew.alloc (.cells #[.int .i64 (X2 : Int)] 3)) (j := 0) (by simp) rfl) (fun e => by have := LB1.out _ e.symm; simp at this; omega)) | (have nb2 : w3.cell? ⟨wq.heap.size, 0, none⟩ = some (.int .i64 (Y2 : Int)) := hgrow1.cell (new_cell2 (w := wq.drew) (j := 0) _ (by simp) rfl) (fun e => by have := LB1.out _ e.symm; simp at this)) | skip))
          | (refine step_append_lies _ (by rfl) _ _ _ (by rfl) wa.heap.size 3 i0 _ 1 8 Try.underlying24 hi hz0 hz1 hz2 rfl (by omega) (.slice G1 k g1) k (row (k * 1) (Iv fun i => 2 * o i)) (by rfl) (by first | exact (RQ.out.drew.alloc _).own1 | exact ((RQ.out.drew.alloc _).alloc _).own1) ⟨wq.heap.size + 1, 0, none⟩ 1 1 [.int .i64 (X2 : Int)] (by rfl) (by rfl) (by first | exact fun j u hu => new_cell rfl (by simpa using hu) | exact fun j u hu => new_cell (by simp) (by simpa using hu) | exact fun j u hu => new_cell2 _ rfl (by simpa using hu)) (by intro u hu; simp at hu; subst hu; rfl) (by omega) (by unfold maxLen; omega) (by omega) (by simp; omega) _ rfl ?_; intro gg1 cap1 w3 hown1 hgrow1 hat1 hlt1; have R3 : RowsS wa w3 (.slice (some ⟨gg1, 0, none⟩) (k + 1) cap1) (k + 1) ((row (k * 1) (Iv fun i => 2 * o i)) ++ [.int .i64 (X2 : Int)]) (.slice G2 k g2) k (row (k * 1) (Iv fun i => p i * c5)) := (by first | exact (RQ.out.drew.alloc _).step1 hown1 hgrow1 hat1 | exact ((RQ.out.drew.alloc _).alloc _).step1 hown1 hgrow1 hat1); (first | (have nb2 : w3.cell? ⟨wq.heap.size + 1, 0, none⟩ = some (.int .i64 (Y2 : Int)) := hgrow1.cell (new_cell (w := wq.drew.alloc (.cells #[.int .i64 (X2 : Int)] 3)) (j := 0) (by simp) rfl) (fun e => by have := LB1.out _ e.symm; simp at this; omega)) | (have nb2 : w3.cell? ⟨wq.heap.size, 0, none⟩ = some (.int .i64 (Y2 : Int)) := hgrow1.cell (new_cell2 (w := wq.drew) (j := 0) _ (by simp) rfl) (fun e => by have := LB1.out _ e.symm; simp at this)) | skip))
          | (refine step_append_lies _ (by rfl) _ _ _ (by rfl) wa.heap.size 3 i0 _ 1 8 Try.underlying24 hi hz0 hz1 hz2 rfl (by omega) (.slice G2 k g2) k (row (k * 1) (Iv fun i => p i * c5)) (by rfl) (by first | exact (R3.alloc _).own2 | exact R3.own2) ⟨w3.heap.size, 0, none⟩ 1 1 [.int .i64 (Y2 : Int)] (by rfl) (by rfl) (fun j u hu => new_cell rfl (by simpa using hu)) (by intro u hu; simp at hu; subst hu; rfl) (by omega) (by unfold maxLen; omega) (by omega) (by have h3 := R3.bel.out.size; first | exact h3 | (simp; omega)) _ rfl ?_; intro gg2 cap2 w4 hown2 hgrow2 hat2 hlt2; have R4 : RowsS wa w4 (.slice (some ⟨gg1, 0, none⟩) (k + 1) cap1) (k + 1) ((row (k * 1) (Iv fun i => 2 * o i)) ++ [.int .i64 (X2 : Int)]) (.slice (some ⟨gg2, 0, none⟩) (k + 1) cap2) (k + 1) ((row (k * 1) (Iv fun i => p i * c5)) ++ [.int .i64 (Y2 : Int)]) := (by first | exact (R3.alloc _).step2 hown2 hgrow2 hat2 | exact R3.step2 hown2 hgrow2 hat2))
          | (refine step_append_lies _ (by rfl) _ _ _ (by rfl) wa.heap.size 3 i0 _ 1 8 Try.underlying24 hi hz0 hz1 hz2 rfl (by omega) (.slice G2 k g2) k (row (k * 1) (Iv fun i => p i * c5)) (by rfl) (by first | exact (R3.alloc _).own2 | exact R3.own2) ⟨wq.heap.size + 1, 0, none⟩ 1 1 [.int .i64 (Y2 : Int)] (by rfl) (by rfl) (one_new nb2) (by intro u hu; simp at hu; subst hu; rfl) (by omega) (by unfold maxLen; omega) (by omega) (by have h3 := R3.bel.out.size; first | exact h3 | (simp; omega)) _ rfl ?_; intro gg2 cap2 w4 hown2 hgrow2 hat2 hlt2; have R4 : RowsS wa w4 (.slice (some ⟨gg1, 0, none⟩) (k + 1) cap1) (k + 1) ((row (k * 1) (Iv fun i => 2 * o i)) ++ [.int .i64 (X2 : Int)]) (.slice (some ⟨gg2, 0, none⟩) (k + 1) cap2) (k + 1) ((row (k * 1) (Iv fun i => p i * c5)) ++ [.int .i64 (Y2 : Int)]) := (by first | exact (R3.alloc _).step2 hown2 hgrow2 hat2 | exact R3.step2 hown2 hgrow2 hat2))
          | (refine step_append_lies _ (by rfl) _ _ _ (by rfl) wa.heap.size 3 i0 _ 1 8 Try.underlying24 hi hz0 hz1 hz2 rfl (by omega) (.slice G2 k g2) k (row (k * 1) (Iv fun i => p i * c5)) (by rfl) (by first | exact (R3.alloc _).own2 | exact R3.own2) ⟨wq.heap.size, 0, none⟩ 1 1 [.int .i64 (Y2 : Int)] (by rfl) (by rfl) (one_new nb2) (by intro u hu; simp at hu; subst hu; rfl) (by omega) (by unfold maxLen; omega) (by omega) (by have h3 := R3.bel.out.size; first | exact h3 | (simp; omega)) _ rfl ?_; intro gg2 cap2 w4 hown2 hgrow2 hat2 hlt2; have R4 : RowsS wa w4 (.slice (some ⟨gg1, 0, none⟩) (k + 1) cap1) (k + 1) ((row (k * 1) (Iv fun i => 2 * o i)) ++ [.int .i64 (X2 : Int)]) (.slice (some ⟨gg2, 0, none⟩) (k + 1) cap2) (k + 1) ((row (k * 1) (Iv fun i => p i * c5)) ++ [.int .i64 (Y2 : Int)]) := (by first | exact (R3.alloc _).step2 hown2 hgrow2 hat2 | exact R3.step2 hown2 hgrow2 hat2))
          | fail)
      all_goals
        have RN4 := Lib.hid R4
        rw [← HROW1.out, ← HROW2.out] at RN4
        clear hown1 hown2 hgrow1 hgrow2 hat1 hat2 R3 R4
        go_wp2
        go_roundw
        case rel => exact ⟨k + 1, N2, V2, by have := HKN.out; omega, by go_num, rfl, rfl, HNV2, RN4, HSM2⟩
        case measure => have := HKN.out; simp [intOf] <;> omega
    · obtain rfl : k = n := by omega
      have gk : ((k : Int) < (k : Int)) = False := eq_false (by omega)
      obtain ⟨G1, g1, rfl, _⟩ := own_slice HR.out.own1
      obtain ⟨G2, g2, rfl, _⟩ := own_slice HR.out.own2
      have c1 := Cells.of_own HR.out.own1
      have c2 := Cells.of_own HR.out.own2
      rw [Nat.mul_one] at c1 c2
      have C1 := Lib.hid c1
      have C2 := Lib.hid c2
      have BSr := Lib.hid (BSa.out.on HR.out.bel.out)
      have X1r := Lib.hid (X1.out.below HR.out.bel.out)
      have Y1r := Lib.hid (Y1.out.below HR.out.bel.out)
      obtain ⟨P', hP'⟩ : ∃ P', P' = nt (fun i => p i * c5) := ⟨_, rfl⟩
      obtain ⟨O', hO'⟩ : ∃ O', O' = nt (fun i => 2 * o i) := ⟨_, rfl⟩
      obtain ⟨p2, hp2⟩ : ∃ v, v = cN O' (nt p) k / Nat.gcd (cN O' (nt p) k) (cD O' (nt p) k) := ⟨_, rfl⟩
      obtain ⟨q2, hq2⟩ : ∃ v, v = cD O' (nt p) k / Nat.gcd (cN O' (nt p) k) (cD O' (nt p) k) := ⟨_, rfl⟩
      have em := more_red GG.out HC5.out.1 hP'
      rw [← HP1.out, ← HQ1.out] at em
      have et := two_red GG.out hO' HP1.out HQ1.out
      rw [← hp2, ← hq2] at et
      have EM := Lib.hid em
      have ET := Lib.hid et
      have HSZ := Lib.hid (size_red hn12 GG.out HP1.out HQ1.out)
      have EZ := Lib.hid (zero_red GG.out HP1.out HQ1.out)
      have GT := Lib.hid (GG.out.twice HSM.out)
      have GM := Lib.hid (GG.out.more HC5.out.1 HC5.out.2 HSM.out)
      have HP2 := Lib.hid hp2
      have HQ2 := Lib.hid hq2
      have HP' := Lib.hid hP'
      have HO' := Lib.hid hO'
      have hN2 : N ≤ 12000000 := by rw [HNV.out.1]; have := nsm_le (f := nt o) (B := 1000000) (n := k) fun i hi => (GG.out.oi (by omega)).2; omega
      have hV2 : V ≤ 12000000 := by rw [HNV.out.2]; have := nsm_le (f := nt p) (B := 1000000) (n := k) fun i hi => (GG.out.pi (by omega)).2.2; omega
      have HN2 := Lib.hid hN2
      have HV2 := Lib.hid hV2
      rw [← HNV.out.1, ← HNV.out.2] at EZ
      obtain ⟨eb, heb⟩ : ∃ b, b = ex (nt o) (nt p) N V k := ⟨_, rfl⟩
      have HEB := Lib.hid heb
      clear c1 c2 hP' hO' hp2 hq2 em et hN2 hV2 heb hk hkn HR X1 Y1
      go_wp2
      go_loopw [118, 14] (fun s118 s14 wx => ∃ j : Nat, j ≤ k ∧ s118 = .int .i64 (j : Int) ∧ s14 = .bool (ex (nt o) (nt p) N V j) ∧ Hid (Below wr.heap.size wr wx)) (fun i _ _ => k - (intOf i).toNat)
      case atStart => exact ⟨0, Nat.zero_le _, rfl, rfl, Lib.hid (Below.refl _ _)⟩
      case round =>
        rename World => wx
        obtain ⟨j, hj, rfl, rfl, HW⟩ := hrel
        by_cases hjk : j < k
        · have gj : ((j : Int) < (k : Int)) := by omega
          have i1 : (0 : Int) ≤ (j : Int) := by omega
          have hw5 : IntKind.i64.wrap ((j : Int) + 1) = (j : Int) + 1 := IntWalk.i64_in _ (by omega)
          obtain ⟨b1, o1, hA1, ltA, hcA⟩ := (GG.out.co (HA.out.below (BSr.out.on HW.out).below)).dg hjk
          obtain ⟨b4, o4, hB1, ltB, hcB⟩ := (GG.out.cp (HB.out.below (BSr.out.on HW.out).below)).dg hjk
          subst hA1 hB1
          have ho1 := (GG.out.oi hjk).2
          have hp1 := (GG.out.pi hjk).2
          obtain ⟨x, hx⟩ : ∃ x, x = nt o j := ⟨_, rfl⟩
          obtain ⟨y, hy⟩ : ∃ y, y = nt p j := ⟨_, rfl⟩
          rw [← hx] at hcA ho1
          rw [← hy] at hcB hp1
          obtain ⟨u, hu⟩ : ∃ u, u = x * V := ⟨_, rfl⟩
          obtain ⟨v, hv⟩ : ∃ v, v = N * y := ⟨_, rfl⟩
          have hu2 : u ≤ 12000000000000 := by rw [hu]; exact Nat.mul_le_mul ho1 HV2.out
          have hv2 : v ≤ 12000000000000 := by rw [hv]; exact Nat.mul_le_mul HN2.out hp1.2
          have hw1 : IntKind.i64.wrap ((x : Int) * (V : Int)) = (u : Int) := by rw [show (x : Int) * (V : Int) = (u : Int) by rw [hu]; rfl]; exact IntWalk.i64_in _ (by omega)
          have hw2 : IntKind.i64.wrap ((N : Int) * (y : Int)) = (v : Int) := by rw [show (N : Int) * (y : Int) = (v : Int) by rw [hv]; rfl]; exact IntWalk.i64_in _ (by omega)
          obtain ⟨e1, he1⟩ : ∃ e, e = ex (nt o) (nt p) N V j := ⟨_, rfl⟩
          obtain ⟨e2, he2⟩ : ∃ e, e = decide (u = v) := ⟨_, rfl⟩
          have hq : ((u : Int) == (v : Int)) = e2 := by
            rw [he2]
            by_cases h : u = v
            · subst h; simp
            · have h2 : ¬ ((u : Int) = (v : Int)) := by omega
              simp [h]
              exact h2
          have HEX : Hid (ex (nt o) (nt p) N V (j + 1) = (e1 && e2)) := Lib.hid (by rw [ex, ← he1, he2, hu, hv, hx, hy])
          rw [← he1]
          have HJK := Lib.hid hjk
          clear hx hy hu hv hu2 hv2 ho1 hp1 he1 he2 hj hjk
          go_upto_region 20 with (fail)
          cases e1 with
          | true =>
            go_quiet (fail)
            go_wp2
            go_roundw
            case rel => exact ⟨j + 1, by have := HJK.out; omega, by go_num, by rw [HEX.out]; simp, Lib.hid (by first | exact HW.out | exact HW.out.drew | exact below_drewN HW.out _)⟩
            case measure => have := HJK.out; simp [intOf] <;> omega
          | false =>
            go_quiet (fail)
            go_wp2
            go_roundw
            case rel => exact ⟨j + 1, by have := HJK.out; omega, by go_num, by rw [HEX.out]; simp, Lib.hid (by first | exact HW.out | exact HW.out.drew | exact below_drewN HW.out _)⟩
            case measure => have := HJK.out; simp [intOf] <;> omega
        · obtain rfl : j = k := by omega
          have gj : ((j : Int) < (j : Int)) = False := eq_false (by omega)
          rw [← HEB.out]
          rw [← HEB.out] at EZ
          have BSx := Lib.hid (BSr.out.on HW.out)
          have K2 := chi_gw (c := c) (c' := g2) (a := p1) (b := q1) hn12 (HA.out.below BSx.out.below) (C2.out.below HW.out) GM.out (by rw [← HP'.out]; exact EM.out.1) (by rw [← HP'.out]; exact EM.out.2)
          have K3 := chi_gw (c := g1) (c' := c') (a := p2) (b := q2) hn12 (C1.out.below HW.out) (HB.out.below BSx.out.below) GT.out (by rw [← HO'.out]; exact HP2.out) (by rw [← HO'.out]; exact HQ2.out)
          have HK2 := Lib.hid K2
          have HK3 := Lib.hid K3
          have X1x := Lib.hid (X1r.out.below HW.out)
          have Y1x := Lib.hid (Y1r.out.below HW.out)
          clear K2 K3 hj hjk
          go_wp2_with fail
          (with_reducible refine (HK2.out _ (Below.refl _ _)).mono ?_)
          rintro e w3 ⟨⟨D2, l2, y2, E2, m2, k2, rfl, a2, b2, hl, hm, hc, hd⟩, hb⟩
          have BQ2 := Lib.hid (BSx.out.on hb)
          have BS2 := Lib.hid (BQ2.out.alloc TF #[.slice D2 l2 y2, .slice E2 m2 k2])
          have X2x := Lib.hid (hc.alloc (.cells #[.slice D2 l2 y2, .slice E2 m2 k2] TF))
          have Y2x := Lib.hid (hd.alloc (.cells #[.slice D2 l2 y2, .slice E2 m2 k2] TF))
          have L2 := Lib.hid hl
          have M2 := Lib.hid hm
          replace X1x := Lib.hid ((X1x.out.below hb).alloc (.cells #[.slice D2 l2 y2, .slice E2 m2 k2] TF))
          replace Y1x := Lib.hid ((Y1x.out.below hb).alloc (.cells #[.slice D2 l2 y2, .slice E2 m2 k2] TF))
          have T3 := Lib.hid (bl_alloc hb (.cells #[.slice D2 l2 y2, .slice E2 m2 k2] TF))
          clear hb hl hm hc hd BSx BQ2 HK2
          go_wp2_with fail
          (with_reducible refine (HK3.out _ T3.out).mono ?_)
          rintro e w4 ⟨⟨D3, l3, y3, E3, m3, k3, rfl, a3, b3, hl, hm, hc, hd⟩, hb⟩
          have BQ3 := Lib.hid (BS2.out.on hb)
          have BS3 := Lib.hid (BQ3.out.alloc TF #[.slice D3 l3 y3, .slice E3 m3 k3])
          have X3x := Lib.hid (hc.alloc (.cells #[.slice D3 l3 y3, .slice E3 m3 k3] TF))
          have Y3x := Lib.hid (hd.alloc (.cells #[.slice D3 l3 y3, .slice E3 m3 k3] TF))
          have L3 := Lib.hid hl
          have M3 := Lib.hid hm
          replace X1x := Lib.hid ((X1x.out.below hb).alloc (.cells #[.slice D3 l3 y3, .slice E3 m3 k3] TF))
          replace Y1x := Lib.hid ((Y1x.out.below hb).alloc (.cells #[.slice D3 l3 y3, .slice E3 m3 k3] TF))
          replace X2x := Lib.hid ((X2x.out.below hb).alloc (.cells #[.slice D3 l3 y3, .slice E3 m3 k3] TF))
          replace Y2x := Lib.hid ((Y2x.out.below hb).alloc (.cells #[.slice D3 l3 y3, .slice E3 m3 k3] TF))
          clear hb hl hm hc hd BS2 HK3 T3
          obtain ⟨_, la, ka⟩ := BQ3.out.get (.tail _ (.head _))
          have q0 : w4.cell? ⟨ab, 0, none⟩ = some (.slice D1 l1 y1) := ka.cell 0
          have q1 : w4.cell? ⟨ab, 1, none⟩ = some (.slice E1 m1 k1) := ka.cell 1
          clear ka BQ3
          have s1 : l1 ≤ 64 := by rw [L1.out]; exact HSZ.out.2.2.1
          have s2 : m1 ≤ 64 := by rw [M1.out]; exact HSZ.out.2.2.2
          have HLP : Hid (L32 p2 ≤ 64 ∧ L32 q2 ≤ 64) := Lib.hid ⟨by rw [← ET.out.1]; exact len_div HSZ.out.1.2.2.2, by rw [← ET.out.2]; exact len_div HSZ.out.1.2.2.1⟩
          have KA := radd_ok (c0 := y1) (c1 := k1) (c2 := y1) (c3 := k1) s1 s2 s1 s2 L1.out M1.out L1.out M1.out X1x.out Y1x.out X1x.out Y1x.out HSZ.out.2.1 HSZ.out.2.1
          unfold fv at KA
          have HKA := Lib.hid (KA.mono fun e w5 ⟨ho, hb⟩ => (⟨by
            rw [ET.out.1, ET.out.2] at ho
            exact Gw.res (out_res ho HSZ.out.1) HLP.out.1 HLP.out.2, hb⟩ : Gw w5 e p2 q2 0 ∧ _))
          clear KA s1 s2
          go_wp2_with fail
          refine HKA.out.mono ?_
          rintro e w5 ⟨⟨D4, l4, y4, E4, m4, k4, rfl, a4, b4, hl, hm, hc, hd⟩, hb⟩
          have BQ4 := Lib.hid (BS3.out.on hb)
          have BS4 := Lib.hid (BQ4.out.alloc TF #[.slice D4 l4 y4, .slice E4 m4 k4])
          have X4x := Lib.hid (hc.alloc (.cells #[.slice D4 l4 y4, .slice E4 m4 k4] TF))
          have Y4x := Lib.hid (hd.alloc (.cells #[.slice D4 l4 y4, .slice E4 m4 k4] TF))
          have L4 := Lib.hid hl
          have M4 := Lib.hid hm
          replace X1x := Lib.hid ((X1x.out.below hb).alloc (.cells #[.slice D4 l4 y4, .slice E4 m4 k4] TF))
          replace Y1x := Lib.hid ((Y1x.out.below hb).alloc (.cells #[.slice D4 l4 y4, .slice E4 m4 k4] TF))
          replace X2x := Lib.hid ((X2x.out.below hb).alloc (.cells #[.slice D4 l4 y4, .slice E4 m4 k4] TF))
          replace Y2x := Lib.hid ((Y2x.out.below hb).alloc (.cells #[.slice D4 l4 y4, .slice E4 m4 k4] TF))
          replace X3x := Lib.hid ((X3x.out.below hb).alloc (.cells #[.slice D4 l4 y4, .slice E4 m4 k4] TF))
          replace Y3x := Lib.hid ((Y3x.out.below hb).alloc (.cells #[.slice D4 l4 y4, .slice E4 m4 k4] TF))
          clear hb hl hm hc hd BS3 HKA q0 q1 la
          obtain ⟨_, la, ka⟩ := BQ4.out.get (.tail _ (.tail _ (.head _)))
          obtain ⟨_, lb, kb⟩ := BQ4.out.get (.tail _ (.head _))
          have q0 : w5.cell? ⟨ab, 0, none⟩ = some (.slice D1 l1 y1) := ka.cell 0
          have q1 : w5.cell? ⟨ab, 1, none⟩ = some (.slice E1 m1 k1) := ka.cell 1
          have q2' : w5.cell? ⟨w3.heap.size, 0, none⟩ = some (.slice D2 l2 y2) := kb.cell 0
          have q3 : w5.cell? ⟨w3.heap.size, 1, none⟩ = some (.slice E2 m2 k2) := kb.cell 1
          clear ka kb BQ4
          go_wp2_with fail
          refine (same_eq a1 b1' a2 b2 L1.out M1.out L2.out M2.out X1x.out Y1x.out X2x.out Y2x.out).mono ?_
          rintro e w6 ⟨rfl, hb⟩
          have BS6 := Lib.hid (BS4.out.on hb)
          replace X1x := Lib.hid (X1x.out.below hb)
          replace Y1x := Lib.hid (Y1x.out.below hb)
          replace X3x := Lib.hid (X3x.out.below hb)
          replace Y3x := Lib.hid (Y3x.out.below hb)
          replace X4x := Lib.hid (X4x.out.below hb)
          replace Y4x := Lib.hid (Y4x.out.below hb)
          clear hb q0 q1 q2' q3 la lb BS4 X2x Y2x
          obtain ⟨_, la, ka⟩ := BS6.out.get (.tail _ (.head _))
          obtain ⟨_, lb, kb⟩ := BS6.out.get (.head _)
          have q0 : w6.cell? ⟨w4.heap.size, 0, none⟩ = some (.slice D3 l3 y3) := ka.cell 0
          have q1 : w6.cell? ⟨w4.heap.size, 1, none⟩ = some (.slice E3 m3 k3) := ka.cell 1
          have q2' : w6.cell? ⟨w5.heap.size, 0, none⟩ = some (.slice D4 l4 y4) := kb.cell 0
          have q3 : w6.cell? ⟨w5.heap.size, 1, none⟩ = some (.slice E4 m4 k4) := kb.cell 1
          clear ka kb
          go_wp2_with fail
          refine (same_eq a3 b3 a4 b4 L3.out M3.out L4.out M4.out X3x.out Y3x.out X4x.out Y4x.out).mono ?_
          rintro e w7 ⟨rfl, hb⟩
          have BS7 := Lib.hid (BS6.out.on hb)
          replace X1x := Lib.hid (X1x.out.below hb)
          replace Y1x := Lib.hid (Y1x.out.below hb)
          clear hb q0 q1 q2' q3 la lb BS6 X3x Y3x X4x Y4x
          obtain ⟨_, la, ka⟩ := BS7.out.get (.tail _ (.tail _ (.tail _ (.head _))))
          have q0 : w7.cell? ⟨ab, 0, none⟩ = some (.slice D1 l1 y1) := ka.cell 0
          have q1 : w7.cell? ⟨ab, 1, none⟩ = some (.slice E1 m1 k1) := ka.cell 1
          clear ka
          go_wp2_with fail
          refine (is_zero a1 b1' L1.out M1.out X1x.out Y1x.out).mono ?_
          rintro e w8 ⟨rfl, hb⟩
          rw [EZ.out]
          have hee : (eb == eb) = true := by simp
          have BS8 := Lib.hid (BS7.out.on hb)
          clear hb q0 q1 la BS7
          go_wp2_with fail
          refine (AW.out _).mono ?_
          rintro e w9 ⟨rfl, hb⟩
          have HB9 := Lib.hid (BS8.out.on hb).below
          clear hb
          go_wp2
          go_ret
          exact ⟨rfl, HB9.out⟩
end Fa
theorem fairnessScales_walk (W : World) {A : Option Addr} {n c : Nat} {o : Nat → Int} (nc : n ≤ c) (cm : c ≤ maxLen) (hA : Cells W A n (Fa.Iv o)) (wo : ∀ i, i < n → (Lit.int .i64 (o i)).wf = true) {B : Option Addr} {m c' : Nat} {p : Nat → Int} (mc : m ≤ c') (cm' : c' ≤ maxLen) (hB : Cells W B m (Fa.Iv p)) (wp : ∀ i, i < m → (Lit.int .i64 (p i)).wf = true) (b : Int) (wb : (Lit.int .u8 b).wf = true) :
    Calls Try.prog 5 #[.slice A n c, .slice B m c', .int .u8 b] W fun e w' => e = .returned (.bool true) ∧ Below W.heap.size W w' := by
  have h : 0 ≤ b ∧ b ≤ 255 := by
    have h1 : IntKind.u8.min ≤ b ∧ b ≤ IntKind.u8.max := by simpa [Lit.wf] using wb
    exact h1
  obtain ⟨k, rfl⟩ := Int.eq_ofNat_of_zero_le h.1
  exact Fa.scales_law (by omega) hA hB
end Go.Proofs.Ytiflmnmkmpjecaa
