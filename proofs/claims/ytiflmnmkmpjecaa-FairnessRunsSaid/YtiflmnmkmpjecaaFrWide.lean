/- The walks of frac.wide, frac.compare. -/
import Derived.Test.YtiflmnmkmpjecaaFrComb
set_option linter.unusedVariables false
namespace Go.Proofs.Ytiflmnmkmpjecaa
open Go.RowKit
namespace Fr
theorem Below.fresh_grown {w w' w2 : World} {g : Nat} (h : Below w.heap.size w w') (hg : w'.grownBy w2 (some g)) (hw : w.heap.size ≤ g) : Below w.heap.size w w2 :=
  h.grown hg h.size (fun k hk => by injection hk with hk; omega)
set_option maxHeartbeats 4000000 in
set_option maxRecDepth 100000 in
theorem wide_any {D E : Option Addr} {n m c c' x y : Nat} {w : World} (hn : n ≤ 64) (hm : m ≤ 64) (hnx : n = L32 x) (hmy : m = L32 y) (hx : Cells w D n (Lm (d32 x))) (hy : Cells w E m (Lm (d32 y))) :
    Calls Try.prog 96 #[.slice D n c, .slice E m c'] w fun e w' => ∃ Dr cr, e = .returned (.slice Dr (n + m) cr) ∧ Cells w' Dr (n + m) (Lm (d32 (x * y))) ∧ Below w.heap.size w w' := by
  obtain ⟨i0, hi, hz0, hz1, hz2⟩ := info_parts Try.infoU
  have HX := Lib.hid (show Fit32 x n by rw [hnx]; exact fit32_len x)
  have HY := Lib.hid (show Fit32 y m by rw [hmy]; exact fit32_len y)
  clear hnx hmy
  have hsum : IntKind.i64.wrap ((n : Int) + (m : Int)) = ((n + m : Nat) : Int) := by rw [IntWalk.i64_in _ (by omega)]; rfl
  go_enter Try.func96, Try.ntmps96
  go_wp2_with (at_make; refine wpList_make_full _ rfl _ _ 30 rfl w.heap.size 88 i0 (.int .u32 0) 1 Try.underlying30 hi hz0 hz1 _ _ _ _ (n + m) rfl rfl ?c1 ?c2 ?c3 ?c4 ?c5 ?_)
  case c1 => first | omega | rfl
  case c2 => first | omega | rfl
  case c3 => rw [hz2]; omega
  case c4 => unfold maxLen; omega
  case c5 => omega
  intro w4 hown1 hgr1
  have hb4 : Below w.heap.size w w4 := (Below.refl _ _).grown hgr1 (Nat.le_refl _) (by simp)
  have HB4 := Lib.hid hb4
  have hgl := (hown1.lt _ rfl).2
  have HO := Lib.hid (own_congr (F' := Lm (d32 (P32 x y 0))) (made_own (z := .int .u32 0) hown1) fun j hj => by unfold Lm; rw [P32_zero, d32_high (by rw [L32_zero.2 rfl]; omega)]; rfl)
  have hwg : w.heap.size ≤ w.heap.size := Nat.le_refl _
  clear hown1 hgr1 hb4
  obtain ⟨g, hg⟩ : ∃ g, g = w.heap.size := ⟨_, rfl⟩
  have HGW := Lib.hid (show w.heap.size ≤ g by omega)
  obtain ⟨bw, hbw⟩ : ∃ b, b = w.heap.size := ⟨_, rfl⟩
  rw [show (some (⟨w.heap.size, 0, none⟩ : Addr)) = some ⟨g, 0, none⟩ by rw [hg]] at HO ⊢
  rw [← hg] at hgl
  clear hwg hg hbw
  go_wp2
  go_loopw [19] (fun i wr => ∃ k : Nat, k ≤ n ∧ i = .int .i64 k ∧ Hid (wr.ownsRow w.heap.size 88 1 (.slice (some ⟨g, 0, none⟩) (n + m) (n + m)) (n + m) (row ((n + m) * 1) (Lm (d32 (P32 x y k))))) ∧ Hid (Below w.heap.size w wr) ∧ g < wr.heap.size) (fun i _ => n - (intOf i).toNat)
  case atStart => exact ⟨0, Nat.zero_le _, rfl, HO, HB4, hgl⟩
  case round =>
    obtain ⟨k, hk, rfl, HO1, HB5, hgl5⟩ := hrel
    by_cases hkn : k < n
    · obtain ⟨b1, o1, rfl, hlt1, hc1⟩ := (hx.below HB5.out).lm hkn
      have hd1 := d32_lt x k
      have HO2 := Lib.hid (own_congr (F' := Lm (m32 x y k 0)) HO1.out fun j _ => by unfold Lm; rw [m32_zero])
      obtain ⟨wo, hwo⟩ : ∃ wo : World, wo = wr := ⟨_, rfl⟩
      go_wp2
      go_loopw [8, 26] (fun cr i ws => ∃ j : Nat, j ≤ m ∧ i = .int .i64 j ∧ cr = .int .u64 (k32 x y k j) ∧ Hid (ws.ownsRow w.heap.size 88 1 (.slice (some ⟨g, 0, none⟩) (n + m) (n + m)) (n + m) (row ((n + m) * 1) (Lm (m32 x y k j)))) ∧ Hid (Below w.heap.size w ws) ∧ g < ws.heap.size) (fun _ i _ => m - (intOf i).toNat)
      case atStart => exact ⟨0, Nat.zero_le _, rfl, by rw [k32_zero]; rfl, HO2, HB5, hgl5⟩
      case round =>
        obtain ⟨j, hj, rfl, rfl, HO3, HB6, hgl6⟩ := hrel
        have hst := Lib.hid (m32_step x y k j)
        have hkl := k32_lt x y k j
        have hkl2 := k32_lt x y k (j + 1)
        have hkj : IntKind.i64.wrap ((k : Int) + (j : Int)) = ((k + j : Nat) : Int) := by rw [IntWalk.i64_in _ (by omega)]; rfl
        by_cases hjm : j < m
        · obtain ⟨b2, o2, rfl, hlt2, hc2⟩ := (hy.below HB6.out).lm hjm
          have hd2 := d32_lt y j
          have hd3 := d32_lt (P32 x y k) (k + j)
          obtain ⟨hp0, hp1⟩ := prod32 x y k j
          obtain ⟨hog, hof⟩ := own_at HO3.out (show k + j < n + m by omega)
          have hog2 : wr.cell? ⟨g, k + j, none⟩ = some (.int .u32 ((d32 (P32 x y k) (k + j) : Nat) : Int)) := by rw [hog]; unfold Lm; rw [m32_old]
          have hm4 := m32_lt x y k (j + 1) (k + j)
          have hb1' : (0 : Int) ≤ ((k + j : Nat) : Int) := by omega
          have hb2' : ((k + j : Nat) : Int) < ((n + m : Nat) : Int) := by omega
          clear hog
          go_wp2
          go_roundw
          case rel =>
            have e1 : ((k32 x y k j : Int) + ((d32 x k : Int) * (d32 y j : Int) + (d32 (P32 x y k) (k + j) : Int))) % 4294967296 = (m32 x y k (j + 1) (k + j) : Int) := by have := hst.out; omega
            have e2 : ((k32 x y k j : Int) + ((d32 x k : Int) * (d32 y j : Int) + (d32 (P32 x y k) (k + j) : Int))) / 4294967296 = (k32 x y k (j + 1) : Int) := by have := hst.out; omega
            rw [e1, e2]
            have hp := own_put (k := k + j) (F' := Lm (m32 x y k (j + 1))) HO3.out fun t _ => m32_put x y k j t
            exact ⟨j + 1, by omega, by go_num, rfl, hp.1, Below.fresh_grown HB6.out hp.2 HGW.out, by simpa using hgl6⟩
          case measure => simp [intOf]; omega
        · obtain rfl : j = m := by omega
          obtain ⟨hog, hof⟩ := own_at HO3.out (show k + j < n + j by omega)
          have hog2 : wr.cell? ⟨g, k + j, none⟩ = some (.int .u32 ((m32 x y k j (k + j) : Nat) : Int)) := hog
          have hb1' : (0 : Int) ≤ ((k + j : Nat) : Int) := by omega
          have hb2' : ((k + j : Nat) : Int) < ((n + j : Nat) : Int) := by omega
          clear hog hst hkl2
          go_wp2
          go_roundw
          case rel =>
            have hp := own_put (k := k + j) (F' := Lm (d32 (P32 x y (k + 1)))) HO3.out fun t _ => m32_last HY.out t
            exact ⟨k + 1, by omega, by go_num, hp.1, Below.fresh_grown HB6.out hp.2 HGW.out, by simpa using hgl6⟩
          case measure => simp [intOf]; omega
    · obtain rfl : k = n := by omega
      have HP := Lib.hid (Cells.of_own (own_congr (F' := Lm (d32 (x * y))) HO1.out fun j hj => by rw [P32_end HX.out]))
      go_wp2
      go_ret
      exact ⟨_, _, rfl, by rw [← Nat.mul_one (k + m)]; exact HP.out, HB5.out⟩
end Fr
end Go.Proofs.Ytiflmnmkmpjecaa
