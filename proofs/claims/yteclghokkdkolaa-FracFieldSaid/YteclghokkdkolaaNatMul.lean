/- The walk of nat.Mul. -/
import Derived.Test.YteclghokkdkolaaNatSum
set_option linter.unusedVariables false
namespace Go.Proofs.Yteclghokkdkolaa
open Go.RowKit

theorem m32_put (x y i j t : Nat) : Lm (m32 x y i (j + 1)) t = if t = i + j then .int .u32 (m32 x y i (j + 1) (i + j) : Int) else Lm (m32 x y i j) t := by
  unfold Lm
  by_cases e : t = i + j
  · subst e; rw [if_pos rfl]
  · rw [if_neg e, m32_next x y i j t e]
theorem m32_last {x y i m : Nat} (hy : Fit32 y m) (t : Nat) : Lm (d32 (P32 x y (i + 1))) t = if t = i + m then .int .u32 (k32 x y i m : Int) else Lm (m32 x y i m) t := by
  unfold Lm
  rw [← m32_end hy]
  by_cases e : t = i + m
  · rw [if_pos e, if_pos e]
  · rw [if_neg e, if_neg e]

set_option maxHeartbeats 2000000 in
set_option maxRecDepth 100000 in
theorem mul_any {D E : Option Addr} {n m c c' x y : Nat} {w : World} (hn : n ≤ 64) (hm : m ≤ 64) (hnx : n = L32 x) (hmy : m = L32 y) (hx : Cells w D n (Lm (d32 x))) (hy : Cells w E m (Lm (d32 y))) :
    Calls Try.prog 60 #[natv D n c, natv E m c'] w fun e w' => NatRes w.heap.size w' e (x * y) ∧ Below w.heap.size w w' := by
  obtain ⟨i0, hi, hz0, hz1, hz2⟩ := info_parts Try.infoU
  have hvx := Lib.hid (vd_true hn hnx)
  have hvy := Lib.hid (vd_true hm hmy)
  have HX := Lib.hid (show Fit32 x n by rw [hnx]; exact fit32_len x)
  have HY := Lib.hid (show Fit32 y m by rw [hmy]; exact fit32_len y)
  clear hnx hmy
  unfold natv
  have BO0 := Lib.hid (Bo.new w (.slice D n c) (.slice E m c') (.slice none 0 0))
  go_enter Try.func60, Try.ntmps60
  go_wp2_with fail
  refine (nvalid_is (by omega) (hx.below BO0.out.below) hvx.out).mono ?_
  rintro e w1 ⟨rfl, hb1⟩
  have BO1 := Lib.hid (BO0.out.on hb1)
  obtain ⟨q0, q1, q2, f2, hlt⟩ := BO1.out.facts
  clear hb1 BO0
  go_wp2_with fail
  refine (nvalid_is (by omega) (hy.below BO1.out.below) hvy.out).mono ?_
  rintro e w2 ⟨rfl, hb1⟩
  clear q0 q1 q2 f2 hlt
  have BO3 := Lib.hid (BO1.out.on hb1)
  obtain ⟨q0, q1, q2, f2, hgw⟩ := BO3.out.facts
  clear hb1 BO1
  go_wp2_with (at_make; refine wpList_make_full _ rfl _ _ 22 rfl (w.heap.size + 1 + 1 + 1) 43 i0 (.int .u32 0) 1 Try.underlying22 hi hz0 hz1 _ _ _ _ (n + m) rfl rfl ?c1 ?c2 ?c3 ?c4 ?c5 ?_)
  case c1 => omega
  case c2 => omega
  case c3 => rw [hz2]; omega
  case c4 => unfold maxLen; omega
  case c5 => omega
  intro w4 hown1 hgr1
  have BO4 := Lib.hid (BO3.out.fresh hgr1)
  have hgl := (hown1.lt _ rfl).2
  have HO := Lib.hid (own_congr (F' := Lm (d32 (P32 x y 0))) (made_own (z := .int .u32 0) hown1) fun j hj => by unfold Lm; rw [P32_zero, d32_high (by rw [L32_zero.2 rfl]; omega)]; rfl)
  clear hown1 hgr1 BO3 q0 q1 q2 f2
  obtain ⟨q0, q1, q2, f2, hgw4⟩ := BO4.out.facts
  generalize w2.heap.size = g at *
  go_wp2
  go_loopw [33] (fun i wr => ∃ k : Nat, k ≤ n ∧ i = .int .i64 k ∧ Hid (wr.ownsRow (w.heap.size + 1 + 1 + 1) 43 1 (.slice (some ⟨g, 0, none⟩) (n + m) (n + m)) (n + m) (row ((n + m) * 1) (Lm (d32 (P32 x y k))))) ∧ Hid (Bo w wr (.slice D n c) (.slice E m c') (.slice none 0 0)) ∧ g < wr.heap.size) (fun i _ => n - (intOf i).toNat)
  case atStart => exact ⟨0, Nat.zero_le _, rfl, HO, BO4, hgl⟩
  case round =>
    obtain ⟨k, hk, rfl, HO1, BO5, hgl5⟩ := hrel
    clear q0 q1 q2 f2 hgw4
    obtain ⟨q0, q1, q2, f2, hgw5⟩ := BO5.out.facts
    by_cases hkn : k < n
    · obtain ⟨b1, o1, rfl, hlt1, hc1⟩ := (hx.below BO5.out.below).lm hkn
      have hd1 := d32_lt x k
      have HO2 := Lib.hid (own_congr (F' := Lm (m32 x y k 0)) HO1.out fun j _ => by unfold Lm; rw [m32_zero])
      obtain ⟨wo, hwo⟩ : ∃ wo : World, wo = wr := ⟨_, rfl⟩
      go_wp2
      rw [show k + m + 1 - k = m + 1 by omega]
      go_loopw [10, 56] (fun cr i ws => ∃ j : Nat, j ≤ m ∧ i = .int .i64 j ∧ cr = .int .u64 (k32 x y k j) ∧ Hid (ws.ownsRow (w.heap.size + 1 + 1 + 1) 43 1 (.slice (some ⟨g, 0, none⟩) (n + m) (n + m)) (n + m) (row ((n + m) * 1) (Lm (m32 x y k j)))) ∧ Hid (Bo w ws (.slice (some ⟨b1, o1, none⟩) n c) (.slice E m c') (.slice none 0 0)) ∧ g < ws.heap.size) (fun _ i _ => m - (intOf i).toNat)
      case atStart => exact ⟨0, Nat.zero_le _, rfl, by rw [k32_zero]; rfl, HO2, BO5, hgl5⟩
      case round =>
        obtain ⟨j, hj, rfl, rfl, HO3, BO6, hgl6⟩ := hrel
        have hst := Lib.hid (m32_step x y k j)
        have hkl := k32_lt x y k j
        have hkl2 := k32_lt x y k (j + 1)
        clear q0 q1 q2 f2 hgw5
        obtain ⟨q0, q1, q2, f2, hgw6⟩ := BO6.out.facts
        by_cases hjm : j < m
        · obtain ⟨b2, o2, rfl, hlt2, hc2⟩ := (hy.below BO6.out.below).lm hjm
          have hd2 := d32_lt y j
          have hd3 := d32_lt (P32 x y k) (k + j)
          obtain ⟨hp0, hp1⟩ := prod32 x y k j
          obtain ⟨hog, hof⟩ := own_at HO3.out (show k + j < n + m by omega)
          have hog2 : wr.cell? ⟨g, k + j, none⟩ = some (.int .u32 ((d32 (P32 x y k) (k + j) : Nat) : Int)) := by rw [hog]; unfold Lm; rw [m32_old]
          have hm4 := m32_lt x y k (j + 1) (k + j)
          clear hog
          go_wp2
          go_roundw
          case rel =>
            have e1 : ((k32 x y k j : Int) + ((d32 x k : Int) * (d32 y j : Int) + (d32 (P32 x y k) (k + j) : Int))) % 4294967296 = (m32 x y k (j + 1) (k + j) : Int) := by have := hst.out; omega
            have e2 : ((k32 x y k j : Int) + ((d32 x k : Int) * (d32 y j : Int) + (d32 (P32 x y k) (k + j) : Int))) / 4294967296 = (k32 x y k (j + 1) : Int) := by have := hst.out; omega
            rw [e1, e2]
            have hp := own_put (k := k + j) (F' := Lm (m32 x y k (j + 1))) HO3.out fun t _ => m32_put x y k j t
            exact ⟨j + 1, by omega, by go_num, rfl, hp.1, BO6.out.grown hp.2 hgw hgl6, by simpa using hgl6⟩
          case measure => simp [intOf]; omega
        · obtain rfl : j = m := by omega
          obtain ⟨hog, hof⟩ := own_at HO3.out (show k + j < n + j by omega)
          have hog2 : wr.cell? ⟨g, k + j, none⟩ = some (.int .u32 ((m32 x y k j (k + j) : Nat) : Int)) := hog
          clear hog hst hkl2
          go_wp2
          go_roundw
          case rel =>
            have hp := own_put (k := k + j) (F' := Lm (d32 (P32 x y (k + 1)))) HO3.out fun t _ => m32_last HY.out t
            exact ⟨k + 1, by omega, by go_num, hp.1, BO6.out.grown hp.2 hgw hgl6, by simpa using hgl6⟩
          case measure => simp [intOf]; omega
    · obtain rfl : k = n := by omega
      have HP := Lib.hid (Cells.of_own (own_congr (F' := Lm (d32 (x * y))) HO1.out fun j hj => by rw [P32_end HX.out]))
      have HF := Lib.hid (Fresh.of_own HO1.out)
      go_wp2_with fail
      refine (bounded_any (B := w.heap.size + 1 + 1 + 1) (by omega) (Nat.le_refl _) (P32_fit HX.out HY.out) (by rw [← Nat.mul_one (k + m)]; exact HP.out) HF.out).mono ?_
      rintro e w5 ⟨hres, hb5⟩
      have BO7 := Lib.hid (BO5.out.on hb5)
      clear q0 q1 q2 f2 hgw5
      obtain ⟨q0, q1, q2, f2, hgw7⟩ := BO7.out.facts
      rcases hres with ⟨h64, Dr, cr, rfl, hlc, hcr, hfr⟩ | ⟨h64, rfl⟩
      · unfold natv
        obtain ⟨l, hl⟩ : ∃ l, l = L32 (x * y) := ⟨_, rfl⟩
        rw [← hl] at hlc hcr h64 ⊢
        have HL := Lib.hid hl
        have HCR := Lib.hid hcr
        clear hl hcr hb5
        go_wp2
        refine bodyPost_ret (v := .tuple #[natv Dr l cr, .int .i64 0]) (by unfold natv; simp [results, Try.results60, go_sem, q2]) rfl ?_
        have hb8 := BO7.out.below.setCell (p := ⟨w.heap.size + 1 + 1, 0, none⟩) (by simp; omega) (.slice Dr l cr)
        exact ⟨.inl ⟨by rw [← HL.out]; exact h64, Dr, cr, by rw [← HL.out], by rw [← HL.out]; exact hlc, by rw [← HL.out]; exact HCR.out.set_ hfr (Nat.lt_succ_self _) _ _, hfr.mono (by omega)⟩, hb8⟩
      · unfold natv
        go_wp2
        refine bodyPost_ret (v := .tuple #[natv none 0 0, .int .i64 9]) (by unfold natv; simp [results, Try.results60, go_sem, q2]) rfl ?_
        exact ⟨.inr ⟨h64, rfl⟩, BO7.out.below.setCell (p := ⟨w.heap.size + 1 + 1, 0, none⟩) (by simp; omega) _⟩
end Go.Proofs.Yteclghokkdkolaa
