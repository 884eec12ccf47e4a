/- Several texts in one. -/
import Derived.Test.YtiflmnmkmpjecaaFrComb
import Derived.Deep.DeepCutAuto
/- The walks of frac.wide, frac.compare. -/
set_option linter.unusedVariables false
namespace Go.Proofs.Ytiflmnmkmpjecaa
open Go.RowKit
namespace Fr
theorem Below.fresh_grown {w w' w2 : World} {g : Nat} (h : Below w.heap.size w w') (hg : w'.grownBy w2 (some g)) (hw : w.heap.size ≤ g) : Below w.heap.size w w2 :=
  h.grown hg h.size (fun k hk => by injection hk with hk; omega)
set_option maxHeartbeats 4000000 in
set_option maxRecDepth 100000 in
theorem wide_any {D E : Option Addr} {n m c c' x y : Nat} {w : World} (hn : n ≤ 64) (hm : m ≤ 64) (hnx : n = L32 x) (hmy : m = L32 y) (hx : Cells w D n (Lm (d32 x))) (hy : Cells w E m (Lm (d32 y))) :
    Calls Try.prog 96 #[.slice D n c, .slice E m c'] w fun e w' => ∃ Dr cr, e = .returned (.slice Dr (n + m) cr) ∧ Cells w' Dr (n + m) (Lm (d32 (x * y))) ∧ Below w.heap.size w w' := by
  obtain ⟨i0, hi, hz0, hz1, hz2⟩ := info_parts Try.infoU
  have HX := Lib.hid (show Fit32 x n by rw [hnx]; exact fit32_len x)
  have HY := Lib.hid (show Fit32 y m by rw [hmy]; exact fit32_len y)
  clear hnx hmy
  have hsum : IntKind.i64.wrap ((n : Int) + (m : Int)) = ((n + m : Nat) : Int) := by rw [IntWalk.i64_in _ (by omega)]; rfl
  go_enter Try.func96, Try.ntmps96
  go_wp2_with (at_make; refine wpList_make_full _ rfl _ _ 30 rfl w.heap.size 88 i0 (.int .u32 0) 1 Try.underlying30 hi hz0 hz1 _ _ _ _ (n + m) rfl rfl ?c1 ?c2 ?c3 ?c4 ?c5 ?_)
  case c1 => first | omega | rfl
  case c2 => first | omega | rfl
  case c3 => rw [hz2]; omega
  case c4 => unfold maxLen; omega
  case c5 => omega
  intro w4 hown1 hgr1
  have hb4 : Below w.heap.size w w4 := (Below.refl _ _).grown hgr1 (Nat.le_refl _) (by simp)
  have HB4 := Lib.hid hb4
  have hgl := (hown1.lt _ rfl).2
  have HO := Lib.hid (own_congr (F' := Lm (d32 (P32 x y 0))) (made_own (z := .int .u32 0) hown1) fun j hj => by unfold Lm; rw [P32_zero, d32_high (by rw [L32_zero.2 rfl]; omega)]; rfl)
  have hwg : w.heap.size ≤ w.heap.size := Nat.le_refl _
  clear hown1 hgr1 hb4
  obtain ⟨g, hg⟩ : ∃ g, g = w.heap.size := ⟨_, rfl⟩
  have HGW := Lib.hid (show w.heap.size ≤ g by omega)
  obtain ⟨bw, hbw⟩ : ∃ b, b = w.heap.size := ⟨_, rfl⟩
  rw [show (some (⟨w.heap.size, 0, none⟩ : Addr)) = some ⟨g, 0, none⟩ by rw [hg]] at HO ⊢
  rw [← hg] at hgl
  clear hwg hg hbw
  go_wp2
  go_loopw [19] (fun i wr => ∃ k : Nat, k ≤ n ∧ i = .int .i64 k ∧ Hid (wr.ownsRow w.heap.size 88 1 (.slice (some ⟨g, 0, none⟩) (n + m) (n + m)) (n + m) (row ((n + m) * 1) (Lm (d32 (P32 x y k))))) ∧ Hid (Below w.heap.size w wr) ∧ g < wr.heap.size) (fun i _ => n - (intOf i).toNat)
  case atStart => exact ⟨0, Nat.zero_le _, rfl, HO, HB4, hgl⟩
  case round =>
    obtain ⟨k, hk, rfl, HO1, HB5, hgl5⟩ := hrel
    by_cases hkn : k < n
    · obtain ⟨b1, o1, rfl, hlt1, hc1⟩ := (hx.below HB5.out).lm hkn
      have hd1 := d32_lt x k
      have HO2 := Lib.hid (own_congr (F' := Lm (m32 x y k 0)) HO1.out fun j _ => by unfold Lm; rw [m32_zero])
      obtain ⟨wo, hwo⟩ : ∃ wo : World, wo = wr := ⟨_, rfl⟩
      go_wp2
      go_loopw [8, 26] (fun cr i ws => ∃ j : Nat, j ≤ m ∧ i = .int .i64 j ∧ cr = .int .u64 (k32 x y k j) ∧ Hid (ws.ownsRow w.heap.size 88 1 (.slice (some ⟨g, 0, none⟩) (n + m) (n + m)) (n + m) (row ((n + m) * 1) (Lm (m32 x y k j)))) ∧ Hid (Below w.heap.size w ws) ∧ g < ws.heap.size) (fun _ i _ => m - (intOf i).toNat)
      case atStart => exact ⟨0, Nat.zero_le _, rfl, by rw [k32_zero]; rfl, HO2, HB5, hgl5⟩
      case round =>
        obtain ⟨j, hj, rfl, rfl, HO3, HB6, hgl6⟩ := hrel
        have hst := Lib.hid (m32_step x y k j)
        have hkl := k32_lt x y k j
        have hkl2 := k32_lt x y k (j + 1)
        have hkj : IntKind.i64.wrap ((k : Int) + (j : Int)) = ((k + j : Nat) : Int) := by rw [IntWalk.i64_in _ (by omega)]; rfl
        by_cases hjm : j < m
        · obtain ⟨b2, o2, rfl, hlt2, hc2⟩ := (hy.below HB6.out).lm hjm
          have hd2 := d32_lt y j
          have hd3 := d32_lt (P32 x y k) (k + j)
          obtain ⟨hp0, hp1⟩ := prod32 x y k j
          obtain ⟨hog, hof⟩ := own_at HO3.out (show k + j < n + m by omega)
          have hog2 : wr.cell? ⟨g, k + j, none⟩ = some (.int .u32 ((d32 (P32 x y k) (k + j) : Nat) : Int)) := by rw [hog]; unfold Lm; rw [m32_old]
          have hm4 := m32_lt x y k (j + 1) (k + j)
          have hb1' : (0 : Int) ≤ ((k + j : Nat) : Int) := by omega
          have hb2' : ((k + j : Nat) : Int) < ((n + m : Nat) : Int) := by omega
          clear hog
          go_wp2
          go_roundw
          case rel =>
            have e1 : ((k32 x y k j : Int) + ((d32 x k : Int) * (d32 y j : Int) + (d32 (P32 x y k) (k + j) : Int))) % 4294967296 = (m32 x y k (j + 1) (k + j) : Int) := by have := hst.out; omega
            have e2 : ((k32 x y k j : Int) + ((d32 x k : Int) * (d32 y j : Int) + (d32 (P32 x y k) (k + j) : Int))) / 4294967296 = (k32 x y k (j + 1) : Int) := by have := hst.out; omega
            rw [e1, e2]
            have hp := own_put (k := k + j) (F' := Lm (m32 x y k (j + 1))) HO3.out fun t _ => m32_put x y k j t
            exact ⟨j + 1, by omega, by go_num, rfl, hp.1, Below.fresh_grown HB6.out hp.2 HGW.out, by simpa using hgl6⟩
          case measure => simp [intOf]; omega
        · obtain rfl : j = m := by omega
          obtain ⟨hog, hof⟩ := own_at HO3.out (show k + j < n + j by omega)
          have hog2 : wr.cell? ⟨g, k + j, none⟩ = some (.int .u32 ((m32 x y k j (k + j) : Nat) : Int)) := hog
          have hb1' : (0 : Int) ≤ ((k + j : Nat) : Int) := by omega
          have hb2' : ((k + j : Nat) : Int) < ((n + j : Nat) : Int) := by omega
          clear hog hst hkl2
          go_wp2
          go_roundw
          case rel =>
            have hp := own_put (k := k + j) (F' := Lm (d32 (P32 x y (k + 1)))) HO3.out fun t _ => m32_last HY.out t
            exact ⟨k + 1, by omega, by go_num, hp.1, Below.fresh_grown HB6.out hp.2 HGW.out, by simpa using hgl6⟩
          case measure => simp [intOf]; omega
    · obtain rfl : k = n := by omega
      have HP := Lib.hid (Cells.of_own (own_congr (F' := Lm (d32 (x * y))) HO1.out fun j hj => by rw [P32_end HX.out]))
      go_wp2
      go_ret
      exact ⟨_, _, rfl, by rw [← Nat.mul_one (k + m)]; exact HP.out, HB5.out⟩
end Fr
end Go.Proofs.Ytiflmnmkmpjecaa

/- The walks of frac.compare and frac.Cmp. -/
set_option linter.unusedVariables false
namespace Go.Proofs.Ytiflmnmkmpjecaa
open Go.RowKit
namespace Fr
set_option maxHeartbeats 1000000 in
theorem limb_any {D : Option Addr} {n c N i : Nat} {w : World} (hn : n ≤ 1000) (hi : i ≤ 1000) (hN : Fit32 N n) (hx : Cells w D n (Lm (d32 N))) :
    Calls Try.prog 97 #[.slice D n c, .int .i64 (i : Int)] w fun e w' => e = .returned (.int .u32 (d32 N i : Int)) ∧ w = w' := by
  have HH := Lib.hid (fun (h : n ≤ i) => d32_high (N := N) (j := i) (Nat.le_trans (fit32_le hN) h))
  clear hN
  go_enter Try.func97, Try.ntmps97
  by_cases h : i < n
  · obtain ⟨b1, o1, rfl, hlt1, hc1⟩ := hx.lm h
    go_wp2
    go_ret
    exact ⟨rfl, rfl⟩
  · have h1 : ((i : Int) < (n : Int)) = False := eq_false (by omega)
    have HZ := Lib.hid (HH.out (by omega))
    clear h
    go_wp2
    go_ret
    exact ⟨by rw [HZ.out]; rfl, rfl⟩
theorem boxes2F (w : World) (S T U V : Value) : Bs w ((w.alloc (.cells #[S, T] TF)).alloc (.cells #[U, V] TF)) [(w.heap.size + 1, TF, #[U, V]), (w.heap.size, TF, #[S, T])] := by
  have := ((Bs.nil w).alloc TF #[S, T]).alloc TF #[U, V]
  simp only [World.size_alloc] at this
  exact this
theorem fit32_mono {x n m : Nat} (h : Fit32 x n) (hm : n ≤ m) : Fit32 x m := Nat.lt_of_lt_of_le h (Nat.pow_le_pow_right (by omega) hm)
theorem fit32_mul {x y n m : Nat} (hx : Fit32 x n) (hy : Fit32 y m) : Fit32 (x * y) (n + m) := P32_fit hx hy
set_option maxHeartbeats 4000000 in
set_option maxRecDepth 100000 in
theorem compare_any {D0 D1 D2 D3 : Option Addr} {n0 n1 n2 n3 c0 c1 c2 c3 xn xd yn yd : Nat} {w : World} (hn0 : n0 ≤ 64) (hn1 : n1 ≤ 64) (hn2 : n2 ≤ 64) (hn3 : n3 ≤ 64) (h0 : n0 = L32 xn) (h1 : n1 = L32 xd) (h2 : n2 = L32 yn) (h3 : n3 = L32 yd)
    (hx0 : Cells w D0 n0 (Lm (d32 xn))) (hx1 : Cells w D1 n1 (Lm (d32 xd))) (hx2 : Cells w D2 n2 (Lm (d32 yn))) (hx3 : Cells w D3 n3 (Lm (d32 yd))) :
    Calls Try.prog 72 #[fv D0 n0 c0 D1 n1 c1, fv D2 n2 c2 D3 n3 c3] w fun e w' => e = .returned (.int .i64 (cmpI (xn * yd) (yn * xd))) ∧ Below w.heap.size w w' := by
  have H0 := Lib.hid h0
  have H1 := Lib.hid h1
  have H2 := Lib.hid h2
  have H3 := Lib.hid h3
  obtain ⟨p, hp⟩ : ∃ p, p = xn * yd := ⟨_, rfl⟩
  obtain ⟨q, hq⟩ : ∃ q, q = yn * xd := ⟨_, rfl⟩
  have HFP : Hid (Fit32 p (n0 + n3)) := by rw [hp]; exact Lib.hid (fit32_mul (by rw [h0]; exact fit32_len _) (by rw [h3]; exact fit32_len _))
  have HFQ : Hid (Fit32 q (n2 + n1)) := by rw [hq]; exact Lib.hid (fit32_mul (by rw [h2]; exact fit32_len _) (by rw [h1]; exact fit32_len _))
  have HP := Lib.hid hp
  have HQ := Lib.hid hq
  rw [← hp, ← hq]
  have BS0 := Lib.hid (boxes2F w (.slice D0 n0 c0) (.slice D1 n1 c1) (.slice D2 n2 c2) (.slice D3 n3 c3))
  clear hp hq h0 h1 h2 h3
  unfold fv
  go_enter Try.func72, Try.ntmps72
  go_wp2_with fail
  refine (wide_any (x := xn) (y := yd) hn0 hn3 H0.out H3.out (hx0.below BS0.out.below) (hx3.below BS0.out.below)).mono ?_
  rintro e w1 ⟨Dp, cp, rfl, hcp, hb1⟩
  rw [← HP.out] at hcp
  have BS1 := Lib.hid (BS0.out.on hb1)
  have HCP := Lib.hid hcp
  obtain ⟨_, la, ka⟩ := BS1.out.get (.tail _ (.head _))
  obtain ⟨_, lb, kb⟩ := BS1.out.get (.head _)
  have qa : w1.cell? ⟨w.heap.size, 1, none⟩ = some (.slice D1 n1 c1) := ka.cell 1
  have qb : w1.cell? ⟨w.heap.size + 1, 0, none⟩ = some (.slice D2 n2 c2) := kb.cell 0
  clear hcp hb1 ka kb BS0
  go_wp2_with fail
  refine (wide_any (x := yn) (y := xd) hn2 hn1 H2.out H1.out (hx2.below BS1.out.below) (hx1.below BS1.out.below)).mono ?_
  rintro e w2 ⟨Dq, cq, rfl, hcq, hb2⟩
  rw [← HQ.out] at hcq
  have HB2 := Lib.hid (BS1.out.on hb2).below
  have HCP2 := Lib.hid (HCP.out.below hb2)
  have HCQ := Lib.hid hcq
  obtain ⟨A, hA⟩ : ∃ A, A = n0 + n3 := ⟨_, rfl⟩
  obtain ⟨B, hB⟩ : ∃ B, B = n2 + n1 := ⟨_, rfl⟩
  rw [← hA] at HCP2 HFP ⊢
  rw [← hB] at HCQ HFQ ⊢
  have hA2 : A ≤ 128 := by omega
  have hB2 : B ≤ 128 := by omega
  clear hcq hb2 qa qb la lb HCP hA hB
  go_upto_region 3 with (fail)
  go_cut [7] (fun s7 wx => ∃ N : Nat, s7 = .int .i64 (N : Int) ∧ A ≤ N ∧ B ≤ N ∧ N ≤ 128 ∧ wx = w2)
  case first =>
    by_cases hAB : A < B
    · have e1 : ((A : Int) < (B : Int)) := by omega
      have e2 : ((B : Int) < (A : Int)) = False := eq_false (by omega)
      go_wp2_with fail
      go_meet
      case rel => exact ⟨B, congrArg _ (by omega), by omega, Nat.le_refl _, hB2, rfl⟩
    · have e1 : ((A : Int) < (B : Int)) = False := eq_false (by omega)
      go_wp2_with fail
      go_meet
      case rel => exact ⟨A, congrArg _ (by omega), Nat.le_refl _, by omega, hA2, rfl⟩
  case rest =>
    obtain ⟨N, rfl, hAN, hBN, hN, hwx⟩ := hcut
    obtain rfl := hwx.symm
    have HT := Lib.hid (top32_start (fit32_mono HFP.out hAN) (fit32_mono HFQ.out hBN))
    have hN1 : IntKind.i64.wrap ((N : Int) - 1) = (N : Int) - 1 := IntWalk.i64_in _ (by omega)
    go_wp2
    go_loopw [9] (fun j wr => ∃ k : Nat, k ≤ N ∧ j = .int .i64 ((k : Int) - 1) ∧ Hid (Top32 p q k) ∧ wr = w2) (fun j _ => (intOf j + 1).toNat)
    case atStart => exact ⟨N, Nat.le_refl _, rfl, HT, rfl⟩
    case round =>
      clear HT hN1
      obtain ⟨k, hk, rfl, HT, hwr⟩ := hrel
      obtain rfl := hwr.symm
      by_cases hk0 : 0 < k
      · obtain ⟨r, hr⟩ : ∃ r, k = r + 1 := ⟨k - 1, by omega⟩
        have hkr : (k : Int) - 1 = (r : Int) := by omega
        have HR := Lib.hid hr
        rw [hkr]
        have hr2 : r ≤ 1000 := by omega
        have hr1 : IntKind.i64.wrap ((r : Int) - 1) = (r : Int) - 1 := IntWalk.i64_in _ (by omega)
        clear hkr hr
        go_wp2_with fail
        refine (limb_any (by omega) hr2 HFP.out HCP2.out).mono ?_
        rintro e w5 ⟨rfl, rfl⟩
        go_wp2_with fail
        refine (limb_any (by omega) hr2 HFQ.out HCQ.out).mono ?_
        rintro e w5 ⟨rfl, rfl⟩
        have HT2 := Lib.hid (show Top32 p q (r + 1) by rw [← HR.out]; exact HT.out)
        rcases Nat.lt_trichotomy (d32 p r) (d32 q r) with hd | hd | hd
        · have e1 : ((d32 p r : Int) < (d32 q r : Int)) := by omega
          have HC := Lib.hid (cmp_ltI (top32_lt HT2.out hd))
          clear hd
          go_wp2
          go_ret
          exact ⟨by rw [HC.out]; rfl, HB2.out⟩
        · have HN := Lib.hid (top32_eq HT2.out hd)
          have e1 : ((d32 p r : Int) < (d32 q r : Int)) = False := eq_false (by omega)
          have e2 : ((d32 q r : Int) < (d32 p r : Int)) = False := eq_false (by omega)
          clear hd
          go_wp2
          go_roundw
          case rel => exact ⟨r, by have := HR.out; omega, by go_num, HN, trivial⟩
          case measure => simp [intOf] <;> omega
        · have HC := Lib.hid (cmp_gtI (top32_lt (show Top32 q p (r + 1) from HT2.out.symm) hd))
          have e1 : ((d32 p r : Int) < (d32 q r : Int)) = False := eq_false (by omega)
          have e2 : ((d32 q r : Int) < (d32 p r : Int)) := by omega
          clear hd
          go_wp2
          go_ret
          exact ⟨by rw [HC.out]; rfl, HB2.out⟩
      · obtain rfl : k = 0 := by omega
        have HC : Hid (cmpI p q = 0) := Lib.hid (cmp_eqI (by have := HT.out; unfold Top32 at this; simpa using this))
        go_wp2
        go_ret
        exact ⟨by rw [HC.out]; rfl, HB2.out⟩
end Fr
end Go.Proofs.Ytiflmnmkmpjecaa
