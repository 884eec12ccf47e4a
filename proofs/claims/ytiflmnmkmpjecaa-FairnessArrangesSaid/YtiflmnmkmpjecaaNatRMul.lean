/- The walk of the reference's mul of digits. -/
import Derived.Test.YtiflmnmkmpjecaaG1
set_option linter.unusedVariables false
namespace Go.Proofs.Ytiflmnmkmpjecaa
open Go.RowKit

theorem m16_put (x y i j t : Nat) : Dg (m16 x y i (j + 1)) t = if t = i + j then .int .i64 (m16 x y i (j + 1) (i + j) : Int) else Dg (m16 x y i j) t := by
  unfold Dg
  by_cases e : t = i + j
  · subst e; rw [if_pos rfl]
  · rw [if_neg e, m16_next x y i j t e]

set_option maxHeartbeats 2000000 in
set_option maxRecDepth 100000 in
theorem rmul_any {D E : Option Addr} {n m c c' x y : Nat} {w : World} (hn : n ≤ 1000) (hm : m ≤ 1000) (hnx : n = L16 x) (hmy : m = L16 y) (hx : Cells w D n (Dg (d16 x))) (hy : Cells w E m (Dg (d16 y))) :
    Calls Try.prog 98 #[.slice D n c, .slice E m c'] w fun e w' => ∃ Dr cr, e = .returned (.slice Dr (L16 (x * y)) cr) ∧ L16 (x * y) ≤ cr ∧ Cells w' Dr (L16 (x * y)) (Dg (d16 (x * y))) ∧ Fresh w.heap.size Dr ∧ Below w.heap.size w w' := by
  obtain ⟨i0, hi, hz0, hz1, hz2⟩ := info_parts Try.infoI
  have HX := Lib.hid (show Fit16 x n by rw [hnx]; exact fit16_len x)
  have HY := Lib.hid (show Fit16 y m by rw [hmy]; exact fit16_len y)
  have HM := Lib.hid hmy
  clear hnx hmy
  go_enter Try.func98, Try.ntmps98
  go_wp2_with (at_make; refine wpList_make_full _ rfl _ _ 24 rfl w.heap.size 3 i0 (.int .i64 0) 1 Try.underlying24 hi hz0 hz1 _ _ _ _ (n + m + 1) rfl rfl ?c1 ?c2 ?c3 ?c4 ?c5 ?_)
  case c1 => omega
  case c2 => omega
  case c3 => rw [hz2]; omega
  case c4 => unfold maxLen; omega
  case c5 => exact Nat.le_refl _
  intro w4 hown1 hgr1
  have HB4 : Hid (Below w.heap.size w w4) := ⟨hgr1.os, hgr1.tape, hgr1.output, hgr1.size, fun k hk => hgr1.block k hk (by simp)⟩
  have hgl := (hown1.lt _ rfl).2
  have HO := Lib.hid (own_congr (F' := Dg (d16 (P16 x y 0))) (made_own (z := .int .i64 0) hown1) fun j hj => by unfold Dg; rw [P16_zero, d16_high (by rw [L16_zero.2 rfl]; omega)]; rfl)
  clear hown1 hgr1
  obtain ⟨g, hg⟩ : ∃ g, g = w.heap.size := ⟨_, rfl⟩
  rw [← hg] at HO hgl ⊢
  have HG := Lib.hid hg
  have hgs : w.heap.size ≤ g := by omega
  clear hg
  go_wp2
  go_loopw [6] (fun i wr => ∃ k : Nat, k ≤ n ∧ i = .int .i64 k ∧ Hid (wr.ownsRow g 3 1 (.slice (some ⟨g, 0, none⟩) (n + m + 1) (n + m + 1)) (n + m + 1) (row ((n + m + 1) * 1) (Dg (d16 (P16 x y k))))) ∧ Hid (Below w.heap.size w wr) ∧ g < wr.heap.size) (fun i _ => n - (intOf i).toNat)
  case atStart => exact ⟨0, Nat.zero_le _, rfl, HO, HB4, hgl⟩
  case round =>
    obtain ⟨k, hk, rfl, HO1, HB5, hgl5⟩ := hrel
    by_cases hkn : k < n
    · have hd1 := d16_lt x k
      have HO2 := Lib.hid (own_congr (F' := Dg (m16 x y k 0)) HO1.out fun j _ => by unfold Dg; rw [m16_zero])
      obtain ⟨wo, hwo⟩ : ∃ wo : World, wo = wr := ⟨_, rfl⟩
      go_wp2
      go_loopw [7, 8] (fun cr i ws => ∃ j : Nat, j ≤ m + 1 ∧ i = .int .i64 j ∧ cr = .int .i64 (k16 x y k j) ∧ Hid (ws.ownsRow g 3 1 (.slice (some ⟨g, 0, none⟩) (n + m + 1) (n + m + 1)) (n + m + 1) (row ((n + m + 1) * 1) (Dg (m16 x y k j)))) ∧ Hid (Below w.heap.size w ws) ∧ g < ws.heap.size) (fun _ i _ => m + 1 - (intOf i).toNat)
      case atStart => exact ⟨0, Nat.zero_le _, rfl, by rw [k16_zero]; rfl, HO2, HB5, hgl5⟩
      case round =>
        obtain ⟨j, hj, rfl, rfl, HO3, HB6, hgl6⟩ := hrel
        have hst := Lib.hid (m16_step x y k j)
        have hkl := k16_lt x y k j
        have hkl2 := k16_lt x y k (j + 1)
        have hfar : m < j → k16 x y k j = 0 := fun h => k16_far HY.out h
        by_cases hgo : j < m ∨ 0 < k16 x y k j
        · have hjm : j ≤ m := by
            rcases Nat.lt_or_ge m j with h | h
            · have := hfar h; omega
            · exact h
          clear hfar
          obtain ⟨b1, o1, rfl, hlt1, hc1⟩ := (hx.below HB6.out).dg hkn
          have hd2 := d16_lt y j
          have hd3 := d16_lt (P16 x y k) (k + j)
          have hm4 := m16_lt x y k (j + 1) (k + j)
          obtain ⟨hp0, hp1⟩ := prod16 x y k j
          obtain ⟨hog, hof⟩ := own_at HO3.out (show k + j < n + m + 1 by omega)
          have hog2 : wr.cell? ⟨g, k + j, none⟩ = some (.int .i64 ((d16 (P16 x y k) (k + j) : Nat) : Int)) := by rw [hog]; unfold Dg; rw [m16_old]
          clear hog
          have i1 : (0 : Int) ≤ (k : Int) := by omega
          have i2 : (k : Int) < (n : Int) := by omega
          have s1 : IntKind.i64.wrap ((k : Int) + (j : Int)) = (k : Int) + (j : Int) := IntWalk.i64_in _ (by omega)
          have s2 : (0 : Int) ≤ (k : Int) + (j : Int) := by omega
          have s3 : (k : Int) + (j : Int) < (n : Int) + (m : Int) + 1 := by omega
          have s4 : ((k : Int) + (j : Int)).toNat = k + j := by omega
          have s5 : IntKind.i64.wrap ((d16 x k : Int) * (d16 y j : Int)) = (d16 x k : Int) * (d16 y j : Int) := IntWalk.i64_in _ (by omega)
          have s6 : IntKind.i64.wrap ((d16 (P16 x y k) (k + j) : Int) + (d16 x k : Int) * (d16 y j : Int)) = (d16 (P16 x y k) (k + j) : Int) + (d16 x k : Int) * (d16 y j : Int) := IntWalk.i64_in _ (by omega)
          have s7 : IntKind.i64.wrap ((d16 (P16 x y k) (k + j) : Int) + (d16 x k : Int) * (d16 y j : Int) + (k16 x y k j : Int)) = (d16 (P16 x y k) (k + j) : Int) + (d16 x k : Int) * (d16 y j : Int) + (k16 x y k j : Int) := IntWalk.i64_in _ (by omega)
          have e1 := Lib.hid (show ((d16 (P16 x y k) (k + j) : Int) + (d16 x k : Int) * (d16 y j : Int) + (k16 x y k j : Int)) % 65536 = (m16 x y k (j + 1) (k + j) : Int) by have := hst.out; omega)
          have e2 := Lib.hid (show ((d16 (P16 x y k) (k + j) : Int) + (d16 x k : Int) * (d16 y j : Int) + (k16 x y k j : Int)) / 65536 = (k16 x y k (j + 1) : Int) by have := hst.out; omega)
          have hgo2 : j < m ∨ (m ≤ j ∧ 0 < k16 x y k j) := by omega
          clear hgo
          rcases hgo2 with hgo | ⟨hgo, hgo3⟩
          all_goals
            go_wp2
            go_quiet ((go_at_call 102; exact quiet_left (rdigit_any (N := y) (by omega) (by omega) (by rw [HM.out]; exact Nat.le_refl _) (hy.below (below_drewN HB6.out _)))))
            clear s1 s2 s3 s4 s5 s6 s7
            go_wp2
            go_roundw
            case rel =>
              rw [e1.out, e2.out]
              have hp := own_put (w := wr.drewN nq) (k := k + j) (F' := Dg (m16 x y k (j + 1))) HO3.out fun t _ => m16_put x y k j t
              exact ⟨j + 1, by omega, by go_num, rfl, hp.1, (below_drewN HB6.out _).trans ((only_below hp.2 (by simp; omega)).mono (by omega)), by simpa using hgl6⟩
            case measure => simp [intOf]; omega
        · have hjm : m ≤ j := by omega
          have hc0 : k16 x y k j = 0 := by omega
          have HC0 := Lib.hid hc0
          have hgo3 : k16 x y k j ≤ 0 := by omega
          clear hfar hgo hc0
          go_wp2
          go_roundw
          case rel =>
            exact ⟨k + 1, by omega, by go_num, own_congr HO3.out (fun t _ => by unfold Dg; rw [m16_done HY.out hjm HC0.out]), HB6.out, hgl6⟩
          case measure => simp [intOf]; omega
    · obtain rfl : k = n := by omega
      have HC := Lib.hid (Cells.of_own (own_congr (F' := Dg (d16 (x * y))) HO1.out fun j hj => by rw [P16_end HX.out]))
      have HF := Lib.hid (Fresh.of_own HO1.out)
      have hfit := Lib.hid (show Fit16 (x * y) (k + m + 1) from Nat.lt_of_lt_of_le (P16_fit HX.out HY.out) (Nat.pow_le_pow_right (by omega) (by omega)))
      go_wp2_with fail
      refine (rtrim_any (N := x * y) (by omega) (Nat.le_refl _) hfit.out (by rw [← Nat.mul_one (k + m + 1)]; exact HC.out)).mono ?_
      rintro e w1 ⟨rfl, rfl⟩
      have hl : L16 (x * y) ≤ k + m + 1 := fit16_le hfit.out
      go_wp2
      go_ret
      exact ⟨_, _, rfl, by omega, HC.out.sub (by omega), HF.out.mono hgs, HB5.out⟩
end Go.Proofs.Ytiflmnmkmpjecaa
