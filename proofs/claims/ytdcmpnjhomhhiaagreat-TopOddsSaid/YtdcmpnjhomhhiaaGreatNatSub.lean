/- The walk of nat.Sub. -/
import Derived.Test.YtdcmpnjhomhhiaaGreatG2
set_option linter.unusedVariables false
namespace Go.Proofs.YtdcmpnjhomhhiaaGreat
open Go.RowKit

set_option maxHeartbeats 1000000 in
set_option maxRecDepth 100000 in
theorem sub_any {D E : Option Addr} {n m c c' x y : Nat} {w : World} (hn : n ≤ 64) (hm : m ≤ 64) (hnx : n = L32 x) (hmy : m = L32 y) (hx : Cells w D n (Lm (d32 x))) (hy : Cells w E m (Lm (d32 y))) (hyx : y ≤ x) :
    Calls Tryz.prog 71 #[natv D n c, natv E m c'] w fun e w' => ∃ Dr cr, e = .returned (.tuple #[natv Dr (L32 (x - y)) cr, .int .i64 0]) ∧ L32 (x - y) ≤ cr ∧ Cells w' Dr (L32 (x - y)) (Lm (d32 (x - y))) ∧ Fresh w.heap.size Dr ∧ Below w.heap.size w w' := by
  obtain ⟨i0, hi, hz0, hz1, hz2⟩ := info_parts Tryz.infoU
  have hvx := Lib.hid (vd_true hn hnx)
  have hvy := Lib.hid (vd_true hm hmy)
  have HX := Lib.hid hnx
  have HY := Lib.hid hmy
  obtain ⟨z, hz⟩ : ∃ z, z = x - y := ⟨_, rfl⟩
  rw [← hz]
  have HZ := Lib.hid (show z + y = x by omega)
  have hcmp : 0 ≤ cmpI x y := by unfold cmpI; rw [if_neg (by omega)]; split <;> omega
  have hmn : m ≤ n := by rw [hnx, hmy]; exact Nt.len_mono (by omega) hyx
  clear hnx hmy hz hyx
  unfold natv
  have BO0 := Lib.hid (Bo.new w (.slice D n c) (.slice E m c') (.slice none 0 0))
  go_enter Tryz.func71, Tryz.ntmps71
  go_wp2_with fail
  refine (nvalid_is (by omega) (hx.below BO0.out.below) hvx.out).mono ?_
  rintro e w1 ⟨rfl, hb1⟩
  have BO1 := Lib.hid (BO0.out.on hb1)
  obtain ⟨q0, q1, q2, f2, hlt⟩ := BO1.out.facts
  clear hb1 BO0
  go_wp2_with fail
  refine (nvalid_is (by omega) (hy.below BO1.out.below) hvy.out).mono ?_
  rintro e w2 ⟨rfl, hb1⟩
  clear q0 q1 q2 f2 hlt
  have BO2 := Lib.hid (BO1.out.on hb1)
  obtain ⟨q0, q1, q2, f2, hlt⟩ := BO2.out.facts
  clear hb1 BO1
  go_wp2_with fail
  refine (compare_any (by omega) (by omega) HX.out HY.out (hx.below BO2.out.below) (hy.below BO2.out.below)).mono ?_
  rintro e w3 ⟨rfl, hb1⟩
  clear q0 q1 q2 f2 hlt
  have BO3 := Lib.hid (BO2.out.on hb1)
  obtain ⟨q0, q1, q2, f2, hgw⟩ := BO3.out.facts
  have hbs := BO3.out.below.size
  clear hb1 BO2
  go_wp2_with (at_make; refine wpList_make_full _ rfl _ _ 32 rfl (w.heap.size + 1 + 1 + 1) 65 i0 (.int .u32 0) 1 Tryz.underlying32 hi hz0 hz1 _ _ _ _ n rfl rfl ?c1 ?c2 ?c3 ?c4 ?c5 ?_)
  case c1 => rfl
  case c2 => rfl
  case c3 => rw [hz2]; omega
  case c4 => unfold maxLen; omega
  case c5 => omega
  intro w4 hown1 hgr1
  have BO4 := Lib.hid (BO3.out.fresh hgr1)
  have hgl := (hown1.lt _ rfl).2
  have HO := Lib.hid (own_congr (F' := Lm (upto (d32 z) 0)) (made_own (z := .int .u32 0) hown1) fun j hj => by unfold Lm upto; rw [if_neg (by omega)]; rfl)
  clear hown1 hgr1 hbs BO3 q0 q1 q2 f2
  obtain ⟨q0, q1, q2, f2, hgw4⟩ := BO4.out.facts
  generalize w3.heap.size = g at *
  go_wp2
  go_loopw [7, 36] (fun cr i wr => ∃ k : Nat, k ≤ n ∧ i = .int .i64 k ∧ cr = .int .u64 (c32 z y k) ∧ Hid (wr.ownsRow (w.heap.size + 1 + 1 + 1) 65 1 (.slice (some ⟨g, 0, none⟩) n n) n (row (n * 1) (Lm (upto (d32 z) k)))) ∧ Hid (Bo w wr (.slice D n c) (.slice E m c') (.slice none 0 0)) ∧ g < wr.heap.size) (fun _ i _ => n - (intOf i).toNat)
  case atStart => exact ⟨0, Nat.zero_le _, rfl, by rw [c32_zero]; rfl, HO, BO4, hgl⟩
  case round =>
    obtain ⟨k, hk, rfl, rfl, HO1, BO5, hgl5⟩ := hrel
    have hst := s32_step HZ.out k
    have hcl := c32_le z y k
    have hd1 := d32_lt x k
    have hd2 := d32_lt y k
    have hd3 := d32_lt z k
    clear q0 q1 q2 f2 hgw4
    obtain ⟨q0, q1, q2, f2, hgw5⟩ := BO5.out.facts
    by_cases hkn : k < n
    · obtain ⟨b1, o1, rfl, hlt1, hc1⟩ := (hx.below BO5.out.below).lm hkn
      obtain ⟨hog, hof⟩ := own_at HO1.out (show k < n by omega)
      have hog2 : wr.cell? ⟨g, k, none⟩ = some (.int .u32 ((0 : Nat) : Int)) := by rw [hog]; unfold Lm; rw [upto_at]
      have HU := Lib.hid fun j => upto_next (d32 z) k j
      have HST := Lib.hid hst
      clear hog hst
      by_cases hkm : k < m
      · obtain ⟨b2, o2, rfl, hlt2, hc2⟩ := (hy.below BO5.out.below).lm hkm
        by_cases hcm : d32 x k < c32 z y k + d32 y k
        · have hcm2 : ((d32 x k : Nat) : Int) < (c32 z y k : Int) + (d32 y k : Int) := by omega
          have HE := Lib.hid (HST.out.1 hcm)
          clear hcm
          go_wp2
          go_roundw
          case rel =>
            have e1 : ((d32 x k : Int) + 4294967296 - ((c32 z y k : Int) + (d32 y k : Int))) = (d32 z k : Int) := by have := HE.out.2; omega
            rw [e1]
            have hp := own_put (k := k) (F' := Lm (upto (d32 z) (k + 1))) HO1.out fun j _ => HU.out j
            exact ⟨k + 1, by omega, by go_num, by rw [HE.out.1]; rfl, hp.1, BO5.out.grown hp.2 hgw hgl5, by simpa using hgl5⟩
          case measure => simp [intOf]; omega
        · have hcm2 : (c32 z y k : Int) + (d32 y k : Int) ≤ ((d32 x k : Nat) : Int) := by omega
          have HE := Lib.hid (HST.out.2 hcm)
          clear hcm
          go_wp2
          go_roundw
          case rel =>
            have e1 : ((d32 x k : Int) - ((c32 z y k : Int) + (d32 y k : Int))) = (d32 z k : Int) := by have := HE.out.2; omega
            rw [e1]
            have hp := own_put (k := k) (F' := Lm (upto (d32 z) (k + 1))) HO1.out fun j _ => HU.out j
            exact ⟨k + 1, by omega, by go_num, by rw [HE.out.1]; rfl, hp.1, BO5.out.grown hp.2 hgw hgl5, by simpa using hgl5⟩
          case measure => simp [intOf]; omega
      · have hz : d32 y k = 0 := d32_high (by rw [← HY.out]; omega)
        rw [hz] at HST
        clear hz
        by_cases hcm : d32 x k < c32 z y k + 0
        · have hcm2 : ((d32 x k : Nat) : Int) < (c32 z y k : Int) := by omega
          have HE := Lib.hid (HST.out.1 hcm)
          clear hcm
          go_wp2
          go_roundw
          case rel =>
            have e1 : ((d32 x k : Int) + 4294967296 - (c32 z y k : Int)) = (d32 z k : Int) := by have := HE.out.2; omega
            rw [e1]
            have hp := own_put (k := k) (F' := Lm (upto (d32 z) (k + 1))) HO1.out fun j _ => HU.out j
            exact ⟨k + 1, by omega, by go_num, by rw [HE.out.1]; rfl, hp.1, BO5.out.grown hp.2 hgw hgl5, by simpa using hgl5⟩
          case measure => simp [intOf]; omega
        · have hcm2 : (c32 z y k : Int) ≤ ((d32 x k : Nat) : Int) := by omega
          have HE := Lib.hid (HST.out.2 hcm)
          clear hcm
          go_wp2
          go_roundw
          case rel =>
            have e1 : ((d32 x k : Int) - (c32 z y k : Int)) = (d32 z k : Int) := by have := HE.out.2; omega
            rw [e1]
            have hp := own_put (k := k) (F' := Lm (upto (d32 z) (k + 1))) HO1.out fun j _ => HU.out j
            exact ⟨k + 1, by omega, by go_num, by rw [HE.out.1]; rfl, hp.1, BO5.out.grown hp.2 hgw hgl5, by simpa using hgl5⟩
          case measure => simp [intOf]; omega
    · obtain rfl : k = n := by omega
      have HP := Lib.hid (Cells.of_own (own_congr (F' := Lm (d32 z)) HO1.out fun j hj => by unfold Lm; rw [upto_lt hj]))
      have HF := Lib.hid (Fresh.of_own HO1.out)
      have hfz := Lib.hid (fit32_of (N := z) (n := k) (by rw [HX.out]; exact Nt.len_mono (by omega) (by have := HZ.out; omega)))
      clear hst
      go_wp2_with fail
      refine (trimmed_any (by omega) (Nat.le_refl _) hfz.out (by rw [← Nat.mul_one k]; exact HP.out)).mono ?_
      rintro e w5 ⟨Dr, cr, rfl, hlc, hcr, hb5, hD⟩
      have BO7 := Lib.hid (BO5.out.on hb5)
      clear q0 q1 q2 f2 hgw5
      obtain ⟨q0, q1, q2, f2, hgw5⟩ := BO7.out.facts
      have hfr := HF.out.same hD
      unfold natv
      obtain ⟨l, hl⟩ : ∃ l, l = L32 z := ⟨_, rfl⟩
      rw [← hl] at hlc hcr ⊢
      have HL := Lib.hid hl
      have HCR := Lib.hid hcr
      have HD := Lib.hid hD
      have HFR := Lib.hid hfr
      clear hl hcr hb5 hD hfr
      go_wp2
      refine bodyPost_ret (v := .tuple #[natv Dr l cr, .int .i64 0]) (by unfold natv; simp [results, Tryz.results71, go_sem, q2]) rfl ?_
      have hb8 := BO7.out.below.setCell (p := ⟨w.heap.size + 1 + 1, 0, none⟩) (by simp; omega) (.slice Dr l cr)
      rw [← HL.out]
      exact ⟨Dr, cr, rfl, hlc, HCR.out.set_ HFR.out (Nat.lt_succ_self _) _ _, HFR.out.mono (by omega), hb8⟩
end Go.Proofs.YtdcmpnjhomhhiaaGreat
