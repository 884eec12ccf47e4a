/- Several texts in one. -/
import Derived.Test.YtdcmpnjhomhhiaaGreatG1
import Derived.Deep.DeepCutAuto
import Derived.Laws.Bits64b
/- The walks of nat.bounded, nat.Add and nat.Sub. -/
set_option linter.unusedVariables false
namespace Go.Proofs.YtdcmpnjhomhhiaaGreat
open Go.RowKit

theorem Tryz.infoU : (Tryz.prog.info? 65).map (fun i => (i.zero, i.size, i.bytes)) = some (some (.int .u32 0), 1, 4) := by kernel_rfl

set_option maxHeartbeats 400000 in
theorem bounded_any {B : Nat} {D : Option Addr} {m c N : Nat} {w : World} (hm : m ≤ 9223372036854775807) (hmc : m ≤ c) (hN : Fit32 N m) (h : Cells w D m (Lm (d32 N))) (hB : Fresh B D) :
    Calls Tryz.prog 26 #[.slice D m c] w fun e w' => NatRes B w' e N ∧ Below w.heap.size w w' := by
  have HN := Lib.hid hN
  have hb0 := (Below.refl w.heap.size w).alloc (Nat.le_refl _) (.cells #[.slice none 0 0] 34)
  have hk0 := Blk.new w 34 #[.slice none 0 0]
  have HB := Lib.hid hb0
  have HK := Lib.hid hk0
  have hL9 : L32 N ≤ 9223372036854775807 := Nat.le_trans (fit32_le hN) hm
  clear hN hb0 hk0
  go_enter Tryz.func26, Tryz.ntmps26
  go_wp2_with fail
  refine (trimmed_any hm hmc HN.out (h.below HB.out)).mono ?_
  rintro e w1 ⟨D', c', rfl, hlc, hc, hb1, hD⟩
  have HB1 := Lib.hid (HB.out.trans (hb1.mono HB.out.size))
  have HK1 := Lib.hid (HK.out.keep hb1)
  have hq := HK1.out.cell 0
  have hf := HK1.out.frozen 0
  have hlt := HK1.out.lt
  have HC := Lib.hid hc
  have HD := Lib.hid hD
  obtain ⟨l, hl⟩ : ∃ l, l = L32 N := ⟨_, rfl⟩
  rw [← hl] at hL9 hlc HC ⊢
  have HL := Lib.hid hl
  clear hb1 hc hD HB HK hl
  unfold natv
  by_cases h64 : l ≤ 64
  · go_wp2
    refine bodyPost_ret (v := .tuple #[natv D' l c', .int .i64 0]) (by unfold natv; simp [results, Tryz.results26, go_sem, hq, hlt]) rfl ?_
    have hb2 := (HB1.out.setCell (p := ⟨w.heap.size, 0, none⟩) (Nat.le_refl _) (.slice D' l c')).alloc (by simpa using HB1.out.size) (.cells #[.slice D' l c'] 34)
    refine ⟨.inl ⟨by rw [← HL.out]; exact h64, D', c', by rw [← HL.out], by rw [← HL.out]; exact hlc, ?_, hB.same HD.out⟩, hb2⟩
    rw [← HL.out]
    exact h.of_same (by rw [HL.out]; exact fit32_le HN.out) HC.out HD.out hb2
  · go_wp2
    refine bodyPost_ret (v := .tuple #[natv none 0 0, .int .i64 9]) (by unfold natv; simp [results, Tryz.results26, go_sem, hq, hlt]) rfl ?_
    have hb2 := (HB1.out.setCell (p := ⟨w.heap.size, 0, none⟩) (Nat.le_refl _) (.slice none 0 0)).alloc (by simpa using HB1.out.size) (.cells #[.slice D' l c'] 34)
    exact ⟨.inr ⟨by rw [← HL.out]; omega, rfl⟩, hb2⟩

/-- The boxes of two numbers and of a result. -/
structure Bo (w w' : World) (S T R : Value) : Prop where
  below : Below w.heap.size w w'
  b0 : Blk w' w.heap.size 34 #[S]
  b1 : Blk w' (w.heap.size + 1) 34 #[T]
  b2 : Blk w' (w.heap.size + 1 + 1) 34 #[R]
theorem Bo.new (w : World) (S T R : Value) : Bo w (((w.alloc (.cells #[S] 34)).alloc (.cells #[T] 34)).alloc (.cells #[R] 34)) S T R := by
  refine ⟨(((Below.refl w.heap.size w).alloc (Nat.le_refl _) _).alloc (by simp) _).alloc (by simp; omega) _, ((Blk.new w _ _).alloc _).alloc _, ?_, ?_⟩
  · have := (Blk.new (w.alloc (.cells #[S] 34)) 34 #[T]).alloc (.cells #[R] 34)
    rwa [World.size_alloc] at this
  · have := Blk.new ((w.alloc (.cells #[S] 34)).alloc (.cells #[T] 34)) 34 #[R]
    rwa [World.size_alloc, World.size_alloc] at this
theorem Bo.on {w w' w'' : World} {S T R : Value} (h : Bo w w' S T R) (k : Below w'.heap.size w' w'') : Bo w w'' S T R :=
  ⟨Below.on h.below k, h.b0.keep k, h.b1.keep k, h.b2.keep k⟩
theorem Bo.drewN {w w' : World} {S T R : Value} (h : Bo w w' S T R) (n : Nat) : Bo w (w'.drewN n) S T R := ⟨below_drewN h.below n, h.b0, h.b1, h.b2⟩
theorem Bo.grown {w w' w'' : World} {S T R : Value} (h : Bo w w' S T R) {g : Nat} (hg : w'.grownBy w'' (some g)) (hlt : w.heap.size + 1 + 1 < g) (hg2 : g < w'.heap.size) : Bo w w'' S T R :=
  ⟨h.below.trans ((only_below hg (by omega)).mono (by omega)), h.b0.grown hg (by intro e; injection e; omega), h.b1.grown hg (by intro e; injection e; omega), h.b2.grown hg (by intro e; injection e; omega)⟩
theorem Bo.fresh {w w' w'' : World} {S T R : Value} (h : Bo w w' S T R) (hg : w'.grownBy w'' none) : Bo w w'' S T R :=
  h.on ⟨hg.os, hg.tape, hg.output, hg.size, fun k hk => hg.block k hk (by simp)⟩
theorem Bo.facts {w w' : World} {S T R : Value} (h : Bo w w' S T R) : w'.cell? ⟨w.heap.size, 0, none⟩ = some S ∧ w'.cell? ⟨w.heap.size + 1, 0, none⟩ = some T ∧ w'.cell? ⟨w.heap.size + 1 + 1, 0, none⟩ = some R ∧ w'.frozen? ⟨w.heap.size + 1 + 1, 0, none⟩ = false ∧ w.heap.size + 1 + 1 < w'.heap.size :=
  ⟨h.b0.cell 0, h.b1.cell 0, h.b2.cell 0, h.b2.frozen 0, h.b2.lt⟩
theorem vd_true {n x : Nat} (hn : n ≤ 64) (hx : n = L32 x) : vd n (d32 x) = true := by
  unfold vd
  simp only [Bool.and_eq_true, Bool.or_eq_true, decide_eq_true_eq, beq_iff_eq, bne_iff_ne]
  refine ⟨hn, ?_⟩
  rcases Nat.eq_zero_or_pos n with e | e
  · exact .inl e
  · right; have := len32_top (N := x) (by omega); rw [← hx] at this; omega

set_option maxHeartbeats 1000000 in
set_option maxRecDepth 100000 in
theorem add_any {D E : Option Addr} {n m c c' x y : Nat} {w : World} (hn : n ≤ 64) (hm : m ≤ 64) (hnx : n = L32 x) (hmy : m = L32 y) (hx : Cells w D n (Lm (d32 x))) (hy : Cells w E m (Lm (d32 y))) :
    Calls Tryz.prog 49 #[natv D n c, natv E m c'] w fun e w' => NatRes w.heap.size w' e (x + y) ∧ Below w.heap.size w w' := by
  obtain ⟨i0, hi, hz0, hz1, hz2⟩ := info_parts Tryz.infoU
  have hvx := Lib.hid (vd_true hn hnx)
  have hvy := Lib.hid (vd_true hm hmy)
  have HX := Lib.hid hnx
  have HY := Lib.hid hmy
  clear hnx hmy
  unfold natv
  have BO0 := Lib.hid (Bo.new w (.slice D n c) (.slice E m c') (.slice none 0 0))
  go_enter Tryz.func49, Tryz.ntmps49
  go_wp2_with fail
  refine (nvalid_is (by omega) (hx.below BO0.out.below) hvx.out).mono ?_
  rintro e w1 ⟨rfl, hb1⟩
  have BO1 := Lib.hid (BO0.out.on hb1)
  obtain ⟨q0, q1, q2, f2, hlt⟩ := BO1.out.facts
  clear hb1 BO0
  go_wp2_with fail
  refine (nvalid_is (by omega) (hy.below BO1.out.below) hvy.out).mono ?_
  rintro e w2 ⟨rfl, hb1⟩
  clear q0 q1 q2 f2 hlt
  have BO2 := Lib.hid (BO1.out.on hb1)
  obtain ⟨q0, q1, q2, f2, hlt⟩ := BO2.out.facts
  clear hb1 BO1
  go_wp2
  go_quiet (fail)
  go_upto_if 29 with (fail)
  go_cut [6, 7] (fun s6 s7 wx => ∃ (D1 E1 : Option Addr) (n1 m1 c1 c2 x1 y1 : Nat), s6 = .slice D1 n1 c1 ∧ s7 = .slice E1 m1 c2 ∧ m1 ≤ n1 ∧ n1 ≤ 64 ∧ Hid (x1 + y1 = x + y ∧ n1 = L32 x1 ∧ m1 = L32 y1) ∧ Cells w D1 n1 (Lm (d32 x1)) ∧ Cells w E1 m1 (Lm (d32 y1)) ∧ Hid (Bo w wx (.slice D n c) (.slice E m c') (.slice none 0 0)))
  case first =>
    by_cases hnm : n < m
    · go_wp2
      go_meet
      case rel => exact ⟨E, D, m, n, _, _, y, x, rfl, rfl, by omega, by omega, ⟨by omega, HY.out, HX.out⟩, hy, hx, BO2.out.drewN _⟩
    · go_wp2
      go_meet
      case rel => exact ⟨D, E, n, m, _, _, x, y, rfl, rfl, by omega, by omega, ⟨by omega, HX.out, HY.out⟩, hx, hy, BO2.out.drewN _⟩
  case rest =>
    obtain ⟨D1, E1, n1, m1, c1, c2, x1, y1, rfl, rfl, hmn, hn1, HXY, hx1, hy1, BO3⟩ := hcut
    clear hvx hvy HX HY hx hy
    have hgw := BO3.out.facts.2.2.2.2
    have hbs := BO3.out.below.size
    go_wp2_with (at_make; refine wpList_make_full _ rfl _ _ 32 rfl (w.heap.size + 1 + 1 + 1) 65 i0 (.int .u32 0) 1 Tryz.underlying32 hi hz0 hz1 _ _ _ _ (n1 + 1) rfl rfl ?c1 ?c2 ?c3 ?c4 ?c5 ?_)
    case c1 => omega
    case c2 => omega
    case c3 => rw [hz2]; omega
    case c4 => unfold maxLen; omega
    case c5 => omega
    intro w4 hown1 hgr1
    have BO4 := Lib.hid (BO3.out.fresh hgr1)
    have hgl := (hown1.lt _ rfl).2
    have HO := Lib.hid (own_congr (F' := Lm (upto (d32 (x1 + y1)) 0)) (made_own (z := .int .u32 0) hown1) fun j hj => by unfold Lm upto; rw [if_neg (by omega)]; rfl)
    clear hown1 hgr1 hbs BO3
    generalize wc.heap.size = g at *
    go_wp2
    go_loopw [9, 38] (fun cr i wr => ∃ k : Nat, k ≤ n1 ∧ i = .int .i64 k ∧ cr = .int .u64 (c32 x1 y1 k) ∧ Hid (wr.ownsRow (w.heap.size + 1 + 1 + 1) 65 1 (.slice (some ⟨g, 0, none⟩) (n1 + 1) (n1 + 1)) (n1 + 1) (row ((n1 + 1) * 1) (Lm (upto (d32 (x1 + y1)) k)))) ∧ Hid (Bo w wr (.slice D n c) (.slice E m c') (.slice none 0 0)) ∧ g < wr.heap.size) (fun _ i _ => n1 - (intOf i).toNat)
    case atStart => exact ⟨0, Nat.zero_le _, rfl, by rw [c32_zero]; rfl, HO, BO4, hgl⟩
    case round =>
      obtain ⟨k, hk, rfl, rfl, HO1, BO5, hgl5⟩ := hrel
      have hst := c32_step x1 y1 k
      have hcl := c32_le x1 y1 k
      have hcl2 := c32_le x1 y1 (k + 1)
      have hd1 := d32_lt x1 k
      have hd2 := d32_lt y1 k
      have hd3 := d32_lt (x1 + y1) k
      by_cases hkn : k < n1
      · obtain ⟨b1, o1, rfl, hlt1, hc1⟩ := (hx1.below BO5.out.below).lm hkn
        obtain ⟨hog, hof⟩ := own_at HO1.out (show k < n1 + 1 by omega)
        have hog2 : wr.cell? ⟨g, k, none⟩ = some (.int .u32 ((0 : Nat) : Int)) := by rw [hog]; unfold Lm; rw [upto_at]
        have HU := Lib.hid fun j => upto_next (d32 (x1 + y1)) k j
        clear hog
        have HST := Lib.hid hst
        clear hst
        by_cases hkm : k < m1
        · obtain ⟨b2, o2, rfl, hlt2, hc2⟩ := (hy1.below BO5.out.below).lm hkm
          go_wp2
          go_roundw
          case rel =>
            have e1 : ((c32 x1 y1 k : Int) + d32 x1 k + d32 y1 k) % 4294967296 = (d32 (x1 + y1) k : Int) := by have := HST.out; omega
            have e2 : ((c32 x1 y1 k : Int) + d32 x1 k + d32 y1 k) / 4294967296 = (c32 x1 y1 (k + 1) : Int) := by have := HST.out; omega
            rw [e1, e2]
            have hp := own_put (k := k) (F' := Lm (upto (d32 (x1 + y1)) (k + 1))) HO1.out fun j _ => HU.out j
            exact ⟨k + 1, by omega, by go_num, rfl, hp.1, BO5.out.grown hp.2 hgw hgl5, by simpa using hgl5⟩
          case measure => simp [intOf]; omega
        · have hz : d32 y1 k = 0 := d32_high (by rw [← HXY.out.2.2]; omega)
          have HZ := Lib.hid hz
          clear hz
          go_wp2
          go_roundw
          case rel =>
            have e1 : ((c32 x1 y1 k : Int) + d32 x1 k) % 4294967296 = (d32 (x1 + y1) k : Int) := by have := HST.out; have := HZ.out; omega
            have e2 : ((c32 x1 y1 k : Int) + d32 x1 k) / 4294967296 = (c32 x1 y1 (k + 1) : Int) := by have := HST.out; have := HZ.out; omega
            rw [e1, e2]
            have hp := own_put (k := k) (F' := Lm (upto (d32 (x1 + y1)) (k + 1))) HO1.out fun j _ => HU.out j
            exact ⟨k + 1, by omega, by go_num, rfl, hp.1, BO5.out.grown hp.2 hgw hgl5, by simpa using hgl5⟩
          case measure => simp [intOf]; omega
      · obtain rfl : k = n1 := by omega
        obtain ⟨hog, hof⟩ := own_at HO1.out (show k < k + 1 by omega)
        have hog2 : wr.cell? ⟨g, k, none⟩ = some (.int .u32 ((0 : Nat) : Int)) := by rw [hog]; unfold Lm; rw [upto_at]
        have htop := Lib.hid (c32_top (x := x1) (y := y1) (n := k) (by rw [HXY.out.2.1]; exact fit32_len x1) (fit32_of (by rw [← HXY.out.2.2]; exact hmn)))
        have hp := own_put (k := k) (u := .int .u32 (c32 x1 y1 k : Int)) (F' := Lm (upto (d32 (x1 + y1)) (k + 1))) HO1.out fun j _ => by rw [upto_next, htop.out.1]
        have HP := Lib.hid (Cells.of_own (own_congr (F' := Lm (d32 (x1 + y1))) hp.1 fun j hj => by unfold Lm; rw [upto_lt hj]))
        have HF := Lib.hid (Fresh.of_own hp.1)
        have BO6 := Lib.hid (BO5.out.grown hp.2 hgw hgl5)
        obtain ⟨q0, q1, q2, f2, hlt⟩ := BO5.out.facts
        clear hog hp hst
        go_wp2_with fail
        refine (bounded_any (B := w.heap.size + 1 + 1 + 1) (by omega) (Nat.le_refl _) htop.out.2 (by rw [← Nat.mul_one (k + 1)]; exact HP.out) HF.out).mono ?_
        rintro e w5 ⟨hres, hb5⟩
        have BO7 := Lib.hid (BO6.out.on hb5)
        clear q0 q1 q2 f2 hlt
        obtain ⟨q0, q1, q2, f2, hlt⟩ := BO7.out.facts
        rw [HXY.out.1] at hres
        rcases hres with ⟨h64, Dr, cr, rfl, hlc, hcr, hfr⟩ | ⟨h64, rfl⟩
        · unfold natv
          obtain ⟨l, hl⟩ : ∃ l, l = L32 (x + y) := ⟨_, rfl⟩
          rw [← hl] at hlc hcr h64 ⊢
          have HL := Lib.hid hl
          have HCR := Lib.hid hcr
          clear hl hcr hb5
          go_wp2
          refine bodyPost_ret (v := .tuple #[natv Dr l cr, .int .i64 0]) (by unfold natv; simp [results, Tryz.results49, go_sem, q2]) rfl ?_
          have hb8 := BO7.out.below.setCell (p := ⟨w.heap.size + 1 + 1, 0, none⟩) (by simp; omega) (.slice Dr l cr)
          refine ⟨.inl ⟨by rw [← HL.out]; exact h64, Dr, cr, by rw [← HL.out], by rw [← HL.out]; exact hlc, by rw [← HL.out]; exact HCR.out.set_ hfr (Nat.lt_succ_self _) _ _, hfr.mono (by omega)⟩, hb8⟩
        · unfold natv
          go_wp2
          refine bodyPost_ret (v := .tuple #[natv none 0 0, .int .i64 9]) (by unfold natv; simp [results, Tryz.results49, go_sem, q2]) rfl ?_
          exact ⟨.inr ⟨h64, rfl⟩, BO7.out.below.setCell (p := ⟨w.heap.size + 1 + 1, 0, none⟩) (by simp; omega) _⟩
end Go.Proofs.YtdcmpnjhomhhiaaGreat

/- The walk of nat.Mul. -/
set_option linter.unusedVariables false
namespace Go.Proofs.YtdcmpnjhomhhiaaGreat
open Go.RowKit

theorem m32_put (x y i j t : Nat) : Lm (m32 x y i (j + 1)) t = if t = i + j then .int .u32 (m32 x y i (j + 1) (i + j) : Int) else Lm (m32 x y i j) t := by
  unfold Lm
  by_cases e : t = i + j
  · subst e; rw [if_pos rfl]
  · rw [if_neg e, m32_next x y i j t e]
theorem m32_last {x y i m : Nat} (hy : Fit32 y m) (t : Nat) : Lm (d32 (P32 x y (i + 1))) t = if t = i + m then .int .u32 (k32 x y i m : Int) else Lm (m32 x y i m) t := by
  unfold Lm
  rw [← m32_end hy]
  by_cases e : t = i + m
  · rw [if_pos e, if_pos e]
  · rw [if_neg e, if_neg e]

set_option maxHeartbeats 2000000 in
set_option maxRecDepth 100000 in
theorem mul_any {D E : Option Addr} {n m c c' x y : Nat} {w : World} (hn : n ≤ 64) (hm : m ≤ 64) (hnx : n = L32 x) (hmy : m = L32 y) (hx : Cells w D n (Lm (d32 x))) (hy : Cells w E m (Lm (d32 y))) :
    Calls Tryz.prog 11 #[natv D n c, natv E m c'] w fun e w' => NatRes w.heap.size w' e (x * y) ∧ Below w.heap.size w w' := by
  obtain ⟨i0, hi, hz0, hz1, hz2⟩ := info_parts Tryz.infoU
  have hvx := Lib.hid (vd_true hn hnx)
  have hvy := Lib.hid (vd_true hm hmy)
  have HX := Lib.hid (show Fit32 x n by rw [hnx]; exact fit32_len x)
  have HY := Lib.hid (show Fit32 y m by rw [hmy]; exact fit32_len y)
  clear hnx hmy
  unfold natv
  have BO0 := Lib.hid (Bo.new w (.slice D n c) (.slice E m c') (.slice none 0 0))
  go_enter Tryz.func11, Tryz.ntmps11
  go_wp2_with fail
  refine (nvalid_is (by omega) (hx.below BO0.out.below) hvx.out).mono ?_
  rintro e w1 ⟨rfl, hb1⟩
  have BO1 := Lib.hid (BO0.out.on hb1)
  obtain ⟨q0, q1, q2, f2, hlt⟩ := BO1.out.facts
  clear hb1 BO0
  go_wp2_with fail
  refine (nvalid_is (by omega) (hy.below BO1.out.below) hvy.out).mono ?_
  rintro e w2 ⟨rfl, hb1⟩
  clear q0 q1 q2 f2 hlt
  have BO3 := Lib.hid (BO1.out.on hb1)
  obtain ⟨q0, q1, q2, f2, hgw⟩ := BO3.out.facts
  clear hb1 BO1
  go_wp2_with (at_make; refine wpList_make_full _ rfl _ _ 32 rfl (w.heap.size + 1 + 1 + 1) 65 i0 (.int .u32 0) 1 Tryz.underlying32 hi hz0 hz1 _ _ _ _ (n + m) rfl rfl ?c1 ?c2 ?c3 ?c4 ?c5 ?_)
  case c1 => omega
  case c2 => omega
  case c3 => rw [hz2]; omega
  case c4 => unfold maxLen; omega
  case c5 => omega
  intro w4 hown1 hgr1
  have BO4 := Lib.hid (BO3.out.fresh hgr1)
  have hgl := (hown1.lt _ rfl).2
  have HO := Lib.hid (own_congr (F' := Lm (d32 (P32 x y 0))) (made_own (z := .int .u32 0) hown1) fun j hj => by unfold Lm; rw [P32_zero, d32_high (by rw [L32_zero.2 rfl]; omega)]; rfl)
  clear hown1 hgr1 BO3 q0 q1 q2 f2
  obtain ⟨q0, q1, q2, f2, hgw4⟩ := BO4.out.facts
  generalize w2.heap.size = g at *
  go_wp2
  go_loopw [33] (fun i wr => ∃ k : Nat, k ≤ n ∧ i = .int .i64 k ∧ Hid (wr.ownsRow (w.heap.size + 1 + 1 + 1) 65 1 (.slice (some ⟨g, 0, none⟩) (n + m) (n + m)) (n + m) (row ((n + m) * 1) (Lm (d32 (P32 x y k))))) ∧ Hid (Bo w wr (.slice D n c) (.slice E m c') (.slice none 0 0)) ∧ g < wr.heap.size) (fun i _ => n - (intOf i).toNat)
  case atStart => exact ⟨0, Nat.zero_le _, rfl, HO, BO4, hgl⟩
  case round =>
    obtain ⟨k, hk, rfl, HO1, BO5, hgl5⟩ := hrel
    clear q0 q1 q2 f2 hgw4
    obtain ⟨q0, q1, q2, f2, hgw5⟩ := BO5.out.facts
    by_cases hkn : k < n
    · obtain ⟨b1, o1, rfl, hlt1, hc1⟩ := (hx.below BO5.out.below).lm hkn
      have hd1 := d32_lt x k
      have HO2 := Lib.hid (own_congr (F' := Lm (m32 x y k 0)) HO1.out fun j _ => by unfold Lm; rw [m32_zero])
      obtain ⟨wo, hwo⟩ : ∃ wo : World, wo = wr := ⟨_, rfl⟩
      go_wp2
      rw [show k + m + 1 - k = m + 1 by omega]
      go_loopw [10, 56] (fun cr i ws => ∃ j : Nat, j ≤ m ∧ i = .int .i64 j ∧ cr = .int .u64 (k32 x y k j) ∧ Hid (ws.ownsRow (w.heap.size + 1 + 1 + 1) 65 1 (.slice (some ⟨g, 0, none⟩) (n + m) (n + m)) (n + m) (row ((n + m) * 1) (Lm (m32 x y k j)))) ∧ Hid (Bo w ws (.slice (some ⟨b1, o1, none⟩) n c) (.slice E m c') (.slice none 0 0)) ∧ g < ws.heap.size) (fun _ i _ => m - (intOf i).toNat)
      case atStart => exact ⟨0, Nat.zero_le _, rfl, by rw [k32_zero]; rfl, HO2, BO5, hgl5⟩
      case round =>
        obtain ⟨j, hj, rfl, rfl, HO3, BO6, hgl6⟩ := hrel
        have hst := Lib.hid (m32_step x y k j)
        have hkl := k32_lt x y k j
        have hkl2 := k32_lt x y k (j + 1)
        clear q0 q1 q2 f2 hgw5
        obtain ⟨q0, q1, q2, f2, hgw6⟩ := BO6.out.facts
        by_cases hjm : j < m
        · obtain ⟨b2, o2, rfl, hlt2, hc2⟩ := (hy.below BO6.out.below).lm hjm
          have hd2 := d32_lt y j
          have hd3 := d32_lt (P32 x y k) (k + j)
          obtain ⟨hp0, hp1⟩ := prod32 x y k j
          obtain ⟨hog, hof⟩ := own_at HO3.out (show k + j < n + m by omega)
          have hog2 : wr.cell? ⟨g, k + j, none⟩ = some (.int .u32 ((d32 (P32 x y k) (k + j) : Nat) : Int)) := by rw [hog]; unfold Lm; rw [m32_old]
          have hm4 := m32_lt x y k (j + 1) (k + j)
          clear hog
          go_wp2
          go_roundw
          case rel =>
            have e1 : ((k32 x y k j : Int) + ((d32 x k : Int) * (d32 y j : Int) + (d32 (P32 x y k) (k + j) : Int))) % 4294967296 = (m32 x y k (j + 1) (k + j) : Int) := by have := hst.out; omega
            have e2 : ((k32 x y k j : Int) + ((d32 x k : Int) * (d32 y j : Int) + (d32 (P32 x y k) (k + j) : Int))) / 4294967296 = (k32 x y k (j + 1) : Int) := by have := hst.out; omega
            rw [e1, e2]
            have hp := own_put (k := k + j) (F' := Lm (m32 x y k (j + 1))) HO3.out fun t _ => m32_put x y k j t
            exact ⟨j + 1, by omega, by go_num, rfl, hp.1, BO6.out.grown hp.2 hgw hgl6, by simpa using hgl6⟩
          case measure => simp [intOf]; omega
        · obtain rfl : j = m := by omega
          obtain ⟨hog, hof⟩ := own_at HO3.out (show k + j < n + j by omega)
          have hog2 : wr.cell? ⟨g, k + j, none⟩ = some (.int .u32 ((m32 x y k j (k + j) : Nat) : Int)) := hog
          clear hog hst hkl2
          go_wp2
          go_roundw
          case rel =>
            have hp := own_put (k := k + j) (F' := Lm (d32 (P32 x y (k + 1)))) HO3.out fun t _ => m32_last HY.out t
            exact ⟨k + 1, by omega, by go_num, hp.1, BO6.out.grown hp.2 hgw hgl6, by simpa using hgl6⟩
          case measure => simp [intOf]; omega
    · obtain rfl : k = n := by omega
      have HP := Lib.hid (Cells.of_own (own_congr (F' := Lm (d32 (x * y))) HO1.out fun j hj => by rw [P32_end HX.out]))
      have HF := Lib.hid (Fresh.of_own HO1.out)
      go_wp2_with fail
      refine (bounded_any (B := w.heap.size + 1 + 1 + 1) (by omega) (Nat.le_refl _) (P32_fit HX.out HY.out) (by rw [← Nat.mul_one (k + m)]; exact HP.out) HF.out).mono ?_
      rintro e w5 ⟨hres, hb5⟩
      have BO7 := Lib.hid (BO5.out.on hb5)
      clear q0 q1 q2 f2 hgw5
      obtain ⟨q0, q1, q2, f2, hgw7⟩ := BO7.out.facts
      rcases hres with ⟨h64, Dr, cr, rfl, hlc, hcr, hfr⟩ | ⟨h64, rfl⟩
      · unfold natv
        obtain ⟨l, hl⟩ : ∃ l, l = L32 (x * y) := ⟨_, rfl⟩
        rw [← hl] at hlc hcr h64 ⊢
        have HL := Lib.hid hl
        have HCR := Lib.hid hcr
        clear hl hcr hb5
        go_wp2
        refine bodyPost_ret (v := .tuple #[natv Dr l cr, .int .i64 0]) (by unfold natv; simp [results, Tryz.results11, go_sem, q2]) rfl ?_
        have hb8 := BO7.out.below.setCell (p := ⟨w.heap.size + 1 + 1, 0, none⟩) (by simp; omega) (.slice Dr l cr)
        exact ⟨.inl ⟨by rw [← HL.out]; exact h64, Dr, cr, by rw [← HL.out], by rw [← HL.out]; exact hlc, by rw [← HL.out]; exact HCR.out.set_ hfr (Nat.lt_succ_self _) _ _, hfr.mono (by omega)⟩, hb8⟩
      · unfold natv
        go_wp2
        refine bodyPost_ret (v := .tuple #[natv none 0 0, .int .i64 9]) (by unfold natv; simp [results, Tryz.results11, go_sem, q2]) rfl ?_
        exact ⟨.inr ⟨h64, rfl⟩, BO7.out.below.setCell (p := ⟨w.heap.size + 1 + 1, 0, none⟩) (by simp; omega) _⟩
end Go.Proofs.YtdcmpnjhomhhiaaGreat

/- Words for the laws of numbers: a number of one limb, results that are not too great, boxes that are kept. -/
set_option linter.unusedVariables false
namespace Go.Proofs.YtdcmpnjhomhhiaaGreat
open Go.RowKit

theorem res_yes {f : FuncId} {args : Array Value} {w : World} {N : Nat} (h : Calls Tryz.prog f args w fun e w' => NatRes w.heap.size w' e N ∧ Below w.heap.size w w') (h64 : L32 N ≤ 64) :
    Calls Tryz.prog f args w fun e w' => ∃ D c, e = .returned (.tuple #[.agg #[.slice D (L32 N) c], .int .i64 0]) ∧ L32 N ≤ c ∧ Cells w' D (L32 N) (Lm (d32 N)) ∧ Below w.heap.size w w' := by
  refine h.mono ?_
  rintro e w1 ⟨⟨_, D, c, he, hl, hc, _⟩ | ⟨hn, _⟩, hb⟩
  · exact ⟨D, c, he, hl, hc, hb⟩
  · omega
theorem res_no {f : FuncId} {args : Array Value} {w : World} {N : Nat} (h : Calls Tryz.prog f args w fun e w' => NatRes w.heap.size w' e N ∧ Below w.heap.size w w') (h64 : 64 < L32 N) :
    Calls Tryz.prog f args w fun e w' => e = .returned (.tuple #[.agg #[.slice none 0 0], .int .i64 9]) ∧ Below w.heap.size w w' := by
  refine h.mono ?_
  rintro e w1 ⟨⟨hn, _⟩ | ⟨_, he⟩, hb⟩
  · omega
  · exact ⟨he, hb⟩
theorem res_sub {f : FuncId} {args : Array Value} {w : World} {N : Nat} (h : Calls Tryz.prog f args w fun e w' => ∃ Dr cr, e = .returned (.tuple #[natv Dr (L32 N) cr, .int .i64 0]) ∧ L32 N ≤ cr ∧ Cells w' Dr (L32 N) (Lm (d32 N)) ∧ Fresh w.heap.size Dr ∧ Below w.heap.size w w') :
    Calls Tryz.prog f args w fun e w' => ∃ D c, e = .returned (.tuple #[.agg #[.slice D (L32 N) c], .int .i64 0]) ∧ L32 N ≤ c ∧ Cells w' D (L32 N) (Lm (d32 N)) ∧ Below w.heap.size w w' := by
  refine h.mono ?_
  rintro e w1 ⟨D, c, he, hl, hc, _, hb⟩
  exact ⟨D, c, he, hl, hc, hb⟩
theorem res_bad {f : FuncId} {args : Array Value} {w : World} {k : Int} (h : Calls Tryz.prog f args w fun e w' => e = .returned (.tuple #[natv none 0 0, .int .i64 k]) ∧ Below w.heap.size w w') :
    Calls Tryz.prog f args w fun e w' => e = .returned (.tuple #[.agg #[.slice none 0 0], .int .i64 k]) ∧ Below w.heap.size w w' := h
theorem bl_alloc' {a w : World} (h : Below a.heap.size a w) (o : Obj) : Below a.heap.size a (w.alloc o) := h.alloc h.size o
/-- Boxes of numbers. -/
def Bxs (w : World) (l : List (Nat × Value)) : Prop := ∀ p ∈ l, Blk w p.1 34 #[p.2]
theorem Bxs.keep {w w' : World} {l : List (Nat × Value)} (h : Bxs w l) (hb : Below w.heap.size w w') : Bxs w' l := fun p hp => (h p hp).keep hb
theorem Bxs.nil (w : World) : Bxs w [] := fun p hp => by cases hp
theorem Bxs.cons {w : World} {l : List (Nat × Value)} (h : Bxs w l) (S : Value) : Bxs (w.alloc (.cells #[S] 34)) ((w.heap.size, S) :: l) := fun p hp => by
  rcases List.mem_cons.1 hp with rfl | hp
  · exact Blk.new w _ _
  · exact (h p hp).alloc _
theorem Bxs.fact {w : World} {l : List (Nat × Value)} (h : Bxs w l) {b : Nat} {S : Value} (hp : (b, S) ∈ l) : w.cell? ⟨b, 0, none⟩ = some S ∧ b < w.heap.size := ⟨(h _ hp).cell 0, (h _ hp).lt⟩

theorem L32_one {k : Nat} (h0 : 0 < k) (h1 : k < 4294967296) : L32 k = 1 := Nt.len_eq (by omega) (by omega) (.inr (by simp; omega))
theorem d32_one {k : Nat} (h1 : k < 4294967296) : d32 k 0 = k := by
  unfold d32 Nt.dig
  rw [Nat.pow_zero, Nat.div_one, Nat.mod_eq_of_lt h1]
end Go.Proofs.YtdcmpnjhomhhiaaGreat

/- The walks of nat.Of, nat.Uint and of their references. -/
set_option linter.unusedVariables false
namespace Go.Proofs.YtdcmpnjhomhhiaaGreat
open Go.RowKit

def q32 (N k : Nat) : Nat := N / 4294967296 ^ k
theorem q32_zero (N : Nat) : q32 N 0 = N := by simp [q32]
theorem q32_next (N k : Nat) : q32 N k = q32 N (k + 1) * 4294967296 + d32 N k := Nt.div_next 4294967296 N k
theorem q32_le (N k : Nat) : q32 N k ≤ N := Nat.div_le_self _ _
theorem q32_end {N k : Nat} (h : L32 N ≤ k) : q32 N k = 0 := Nat.div_eq_of_lt (fit32_of h)
theorem q32_pos {N k : Nat} (h : k < L32 N) : 0 < q32 N k := by
  rcases Nat.eq_zero_or_pos (q32 N k) with h0 | h0
  · have : N < 4294967296 ^ k := by
      unfold q32 at h0
      rcases Nat.div_eq_zero_iff.1 h0 with h1 | h1
      · have := Nat.pow_pos (n := k) (show 0 < 4294967296 by omega); omega
      · exact h1
    have := fit32_le this
    omega
  · exact h0
theorem fit_two {N : Nat} (h : N < 18446744073709551616) : Fit32 N 2 := by
  show N < 4294967296 ^ 2
  rw [show (4294967296 : Nat) ^ 2 = 18446744073709551616 by rfl]; exact h
theorem two_digits {N : Nat} (h : N < 18446744073709551616) : d32 N 0 = N % 4294967296 ∧ d32 N 1 = N / 4294967296 := by
  unfold d32 Nt.dig
  rw [Nat.pow_zero, Nat.pow_one, Nat.div_one]
  exact ⟨rfl, Nat.mod_eq_of_lt (by omega)⟩

set_option maxHeartbeats 400000 in
theorem of_any (N : Nat) (hN : N < 18446744073709551616) (w : World) :
    Calls Tryz.prog 12 #[.int .u64 (N : Int)] w fun e w' => ∃ D c, e = .returned (.agg #[.slice D (L32 N) c]) ∧ L32 N ≤ c ∧ Cells w' D (L32 N) (Lm (d32 N)) ∧ Below w.heap.size w w' := by
  have hf := Lib.hid (fit_two hN)
  obtain ⟨e0, e1⟩ := two_digits hN
  have E0 := Lib.hid e0
  have E1 := Lib.hid e1
  clear e0 e1
  go_enter Tryz.func12, Tryz.ntmps12
  have hb0 := (Below.refl w.heap.size w).alloc (Nat.le_refl _) (.cells #[.slice none 0 0] 34)
  have hk0 := Blk.new w 34 #[.slice none 0 0]
  have HB0 := Lib.hid (hb0.alloc hb0.size (.cells #[.int .u32 ((N : Int) % 4294967296), .int .u32 ((N : Int) / 4294967296)] 65))
  have HK0 := Lib.hid (hk0.alloc (.cells #[.int .u32 ((N : Int) % 4294967296), .int .u32 ((N : Int) / 4294967296)] 65))
  have HC0 := Lib.hid (Cells.lit (w := w.alloc (.cells #[.slice none 0 0] 34)) (cs := #[.int .u32 ((N : Int) % 4294967296), .int .u32 ((N : Int) / 4294967296)]) (t := 65) (g := w.heap.size + 1) (m := 2) (G := Lm (d32 N)) (by simp) fun j hj => by
    match j, hj with
    | 0, _ => unfold Lm; rw [E0.out, Int.natCast_emod]; rfl
    | 1, _ => unfold Lm; rw [E1.out, Int.natCast_ediv]; rfl)
  clear hb0 hk0
  go_wp2_with fail
  refine (trimmed_any (by omega) (by omega) hf.out HC0.out).mono ?_
  rintro e w1 ⟨D, c, rfl, hlc, hc, hb1, hD⟩
  have HB1 := Lib.hid (HB0.out.trans (hb1.mono HB0.out.size))
  have HK1 := Lib.hid (HK0.out.keep hb1)
  have q0 := HK1.out.cell 0
  have f0 := HK1.out.frozen 0
  have hlt := HK1.out.lt
  have q0 : w1.cell? ⟨w.heap.size, 0, none⟩ = some (.slice none 0 0) := q0
  have HC := Lib.hid hc
  have HD : Hid (Fresh (w.heap.size + 1) D) := Fresh.same (D := some ⟨w.heap.size + 1, 0, none⟩) (fun a ha => by injection ha with ha; subst ha; exact Nat.le_refl _) hD
  unfold natv
  obtain ⟨l, hl⟩ : ∃ l, l = L32 N := ⟨_, rfl⟩
  rw [← hl] at hlc HC ⊢
  have HL := Lib.hid hl
  clear hb1 hc HB0 HK0 HC0 hl hD
  go_wp2
  refine bodyPost_ret (v := .agg #[.slice D l c]) (by simp [results, Tryz.results12, go_sem, q0]) rfl ?_
  rw [← HL.out]
  exact ⟨D, c, rfl, hlc, HC.out.set_ HD.out (Nat.lt_succ_self _) _ _, HB1.out.setCell (p := ⟨w.heap.size, 0, none⟩) (Nat.le_refl _) _⟩

end Go.Proofs.YtdcmpnjhomhhiaaGreat

/- The walks of nat.Uint and of its reference. -/
set_option linter.unusedVariables false
namespace Go.Proofs.YtdcmpnjhomhhiaaGreat
open Go.RowKit

theorem or_two (a b : Nat) (ha : a < 4294967296) (hb : b < 4294967296) : bits .or .u64 (a : Int) ((b : Int) * 4294967296) = ((a + b * 4294967296 : Nat) : Int) := by
  have h := Go.bits_or_u64_nat a (b * 4294967296) (by omega) (by omega)
  have h2 := Nat.two_pow_add_eq_or_of_lt (i := 32) (b := a) (by omega) b
  rw [show (2 : Nat) ^ 32 = 4294967296 by rfl] at h2
  rw [show ((b : Int) * 4294967296) = ((b * 4294967296 : Nat) : Int) by omega, h, Nat.or_comm, Nat.mul_comm, ← h2]
  omega

theorem or_zero (a : Nat) (ha : a < 4294967296) : bits .or .u64 0 (a : Int) = (a : Int) := by
  have h := Go.bits_or_u64_nat 0 a (by omega) (by omega)
  rw [Nat.zero_or] at h
  exact h
theorem ret_uintb {a b : Int} {t : Bool} (h : a = b) : Ending.returned (.tuple #[.int .u64 a, .bool t]) = .returned (.tuple #[.int .u64 b, .bool t]) := by rw [h]

set_option maxHeartbeats 1000000 in
set_option maxRecDepth 100000 in
theorem uint_yes {D : Option Addr} {n c N : Nat} {w : World} (hn : n ≤ 2) (hN : N < 18446744073709551616) (hnx : n = L32 N) (hx : Cells w D n (Lm (d32 N))) :
    Calls Tryz.prog 55 #[natv D n c] w fun e w' => e = .returned (.tuple #[.int .u64 (N : Int), .bool true]) ∧ Below w.heap.size w w' := by
  have hv := Lib.hid (vd_true (by omega) hnx)
  obtain ⟨e0, e1⟩ := two_digits hN
  have hd0 := d32_lt N 0
  have hd1 := d32_lt N 1
  have E0 := Lib.hid e0
  have E1 := Lib.hid e1
  have HL := Lib.hid hnx
  clear hnx e0 e1
  unfold natv
  have HB0 := Lib.hid ((Below.refl w.heap.size w).alloc (Nat.le_refl _) (.cells #[.slice D n c] 34))
  have HK0 := Lib.hid (Blk.new w 34 #[.slice D n c])
  go_enter Tryz.func55, Tryz.ntmps55
  go_wp2_with fail
  refine (nvalid_is (by omega) (hx.below HB0.out) hv.out).mono ?_
  rintro e w1 ⟨rfl, hb1⟩
  have HB1 := Lib.hid (Below.on HB0.out hb1)
  have HK1 := Lib.hid (HK0.out.keep hb1)
  have q0 : w1.cell? ⟨w.heap.size, 0, none⟩ = some (.slice D n c) := HK1.out.cell 0
  have hlt := HK1.out.lt
  have hx1 := Lib.hid (hx.below HB1.out)
  clear hb1 HB0 HK0
  have hcases : n = 0 ∨ n = 1 ∨ n = 2 := by omega
  rcases hcases with rfl | rfl | rfl
  · have hz := Lib.hid (L32_zero.1 HL.out.symm)
    go_wp2
    refine wp_loop_rounds 1 ?_
    rw [rounds_succ]
    go_wp2
    go_ret2
    exact ⟨by rw [hz.out]; rfl, HB1.out⟩
  · obtain ⟨b, off, rfl, hlt1, hc1⟩ := hx1.out.lm (show 0 < 1 by omega)
    have hc1 : w1.cell? ⟨b, off, none⟩ = some (.int .u32 (d32 N 0 : Int)) := hc1
    go_wp2
    refine wp_loop_rounds 2 ?_
    rw [rounds_succ]
    go_wp2
    rw [rounds_succ]
    go_wp2
    go_ret2
    exact ⟨ret_uintb (by rw [or_zero _ hd0, E0.out]; have : Fit32 N 1 := (by rw [HL.out]; exact fit32_len N); have : N < 4294967296 ^ 1 := this; omega), HB1.out⟩
  · obtain ⟨b, off, rfl, hlt1, hc1⟩ := hx1.out.lm (show 0 < 2 by omega)
    obtain ⟨b2, off2, hbo, hlt2, hc2⟩ := hx1.out.lm (show 1 < 2 by omega)
    injection hbo with hbo
    injection hbo with hbo1 hbo2
    subst hbo1 hbo2
    have hc1 : w1.cell? ⟨b, off, none⟩ = some (.int .u32 (d32 N 0 : Int)) := hc1
    go_wp2
    refine wp_loop_rounds 3 ?_
    rw [rounds_succ]
    go_wp2
    rw [rounds_succ]
    go_wp2
    rw [rounds_succ]
    go_wp2
    go_ret2
    exact ⟨ret_uintb (by rw [or_zero _ hd0, or_two _ _ hd0 hd1, E0.out, E1.out]; omega), HB1.out⟩

set_option maxHeartbeats 400000 in
theorem uint_no {D : Option Addr} {n c : Nat} {f : Nat → Nat} {w : World} (hn : n ≤ 9223372036854775807) (hx : Cells w D n (Lm f)) (hv : vd n f = false ∨ vd n f = true ∧ 2 < n) :
    Calls Tryz.prog 55 #[natv D n c] w fun e w' => e = .returned (.tuple #[.int .u64 0, .bool false]) ∧ Below w.heap.size w w' := by
  unfold natv
  have HB0 := Lib.hid ((Below.refl w.heap.size w).alloc (Nat.le_refl _) (.cells #[.slice D n c] 34))
  have HK0 := Lib.hid (Blk.new w 34 #[.slice D n c])
  rcases hv with hv | ⟨hv, hn2⟩
  · have HV := Lib.hid hv
    clear hv
    go_enter Tryz.func55, Tryz.ntmps55
    go_wp2_with fail
    refine (nvalid_is hn (hx.below HB0.out) HV.out).mono ?_
    rintro e w1 ⟨rfl, hb1⟩
    have HB1 := Lib.hid (Below.on HB0.out hb1)
    clear hb1
    go_wp2
    go_ret2
    exact ⟨rfl, HB1.out⟩
  · have HV := Lib.hid hv
    clear hv
    go_enter Tryz.func55, Tryz.ntmps55
    go_wp2_with fail
    refine (nvalid_is hn (hx.below HB0.out) HV.out).mono ?_
    rintro e w1 ⟨rfl, hb1⟩
    have HB1 := Lib.hid (Below.on HB0.out hb1)
    have HK1 := Lib.hid (HK0.out.keep hb1)
    have q0 : w1.cell? ⟨w.heap.size, 0, none⟩ = some (.slice D n c) := HK1.out.cell 0
    clear hb1
    go_wp2
    go_ret2
    exact ⟨rfl, HB1.out⟩

end Go.Proofs.YtdcmpnjhomhhiaaGreat

/- Natural numbers by their digits, second part: short division, multiples by one digit. -/
set_option linter.unusedVariables false
namespace Go.Proofs.YtdcmpnjhomhhiaaGreat
namespace Nt
/-! Short division, from the top: by one digit. -/
/-- The rest of what stands above digit j, divided by d. -/
theorem small_quo {b N d j : Nat} (hb : 0 < b) (hd : 0 < d) : dig b (N / d) j = (N / b ^ (j + 1) % d * b + dig b N j) / d := dig_quo hb hd
theorem small_rem {b N d j : Nat} (hb : 0 < b) (hd : 0 < d) : N / b ^ j % d = (N / b ^ (j + 1) % d * b + dig b N j) % d := win_mod hb hd
/-! Chains of a factor: a sum plus a product by one digit, and a difference. -/
/-- The digits of f * y, digit by digit: the carry into digit k. -/
def fcar (b f y k : Nat) : Nat := f * (y % b ^ k) / b ^ k
theorem fcar_zero (b f y : Nat) : fcar b f y 0 = 0 := by simp [fcar, Nat.mod_one]
theorem fmul_next (b f y k : Nat) : f * (y % b ^ (k + 1)) = f * (y % b ^ k) + b ^ k * (f * dig b y k) := by
  rw [mod_next, Nat.mul_add]
  congr 1
  rw [← Nat.mul_assoc, ← Nat.mul_assoc, Nat.mul_comm f]
theorem fcar_step {b : Nat} (hb : 0 < b) (f y k : Nat) : fcar b f y k + f * dig b y k = b * fcar b f y (k + 1) + dig b (f * y) k := by
  have h1 : fcar b f y (k + 1) = (fcar b f y k + f * dig b y k) / b := by
    unfold fcar; rw [fmul_next, chain_c hb]
  have h2 : dig b (f * y) k = (fcar b f y k + f * dig b y k) % b := by
    have h3 : f * y = f * (y % b ^ (k + 1)) + b ^ (k + 1) * (f * (y / b ^ (k + 1))) := by
      have := Nat.mod_add_div y (b ^ (k + 1))
      generalize y % b ^ (k + 1) = r at *
      generalize y / b ^ (k + 1) = q at *
      rw [← this, Nat.mul_add]
      congr 1
      rw [← Nat.mul_assoc, ← Nat.mul_assoc, Nat.mul_comm f]
    rw [h3, chain_lo hb _ _ (Nat.lt_succ_self k), fmul_next, chain_d hb]; rfl
  rw [h1, h2, Nat.div_add_mod]
theorem fcar_lt {b f : Nat} (hb : 0 < b) (hf : f < b) (y k : Nat) : fcar b f y k < b := by
  unfold fcar
  have h1 := Nat.mod_lt y (Nat.pow_pos (n := k) hb)
  refine (Nat.div_lt_iff_lt_mul (Nat.pow_pos hb)).2 ?_
  exact Nat.lt_of_le_of_lt (Nat.mul_le_mul_left _ (Nat.le_of_lt h1)) (Nat.mul_lt_mul_of_pos_right hf (Nat.pow_pos hb))
end Nt
end Go.Proofs.YtdcmpnjhomhhiaaGreat

/- Blocks known whole; the walks of nat.divideSmall and nat.copied. -/
set_option linter.unusedVariables false
namespace Go.Proofs.YtdcmpnjhomhhiaaGreat
open Go.RowKit

/-- Block g is M cells, cell j holds F j. -/
def Arr (w : World) (g : Nat) (t : TypeId) (M : Nat) (F : Nat → Value) : Prop := Blk w g t (row M F).toArray
theorem Arr.at_ {w : World} {g : Nat} {t : TypeId} {M k : Nat} {F : Nat → Value} (h : Arr w g t M F) (hk : k < M) : w.cell? ⟨g, k, none⟩ = some (F k) ∧ w.frozen? ⟨g, k, none⟩ = false := by
  refine ⟨(Blk.cell h k).trans ?_, Blk.frozen h k⟩
  simp [row_get hk]
theorem Arr.put {w : World} {g : Nat} {t : TypeId} {M k : Nat} {F F' : Nat → Value} {u : Value} (h : Arr w g t M F) (hF : ∀ j, j < M → F' j = if j = k then u else F j) : Arr (w.setCell ⟨g, k, none⟩ u) g t M F' ∧ w.grownBy (w.setCell ⟨g, k, none⟩ u) (some g) := by
  refine ⟨?_, only_set (only_refl w g) k u⟩
  have := Blk.set_ h k u
  unfold Arr
  rw [← row_set hF]
  rw [List.setIfInBounds_toArray] at this
  exact this
theorem Arr.congr {w : World} {g : Nat} {t : TypeId} {M : Nat} {F F' : Nat → Value} (h : Arr w g t M F) (hF : ∀ j, j < M → F j = F' j) : Arr w g t M F' := by
  unfold Arr; rw [← row_congr hF]; exact h
theorem Arr.cells {w : World} {g : Nat} {t : TypeId} {M n o : Nat} {F : Nat → Value} (h : Arr w g t M F) (hn : o + n ≤ M) : Cells w (some ⟨g, o, none⟩) n (fun j => F (o + j)) := fun _ =>
  ⟨g, o, rfl, Blk.lt h, fun j hj => (h.at_ (by omega)).1⟩
theorem Arr.of_own {w : World} {base g : Nat} {e : TypeId} {n cap : Nat} {F : Nat → Value} (h : w.ownsRow base e 1 (.slice (some ⟨g, 0, none⟩) n cap) n (row (n * 1) F)) :
    ∃ F', Arr w g e cap F' ∧ n ≤ cap ∧ base ≤ g ∧ ∀ j, j < n → F' j = F j := by
  rcases h.2 with ⟨h', _⟩ | ⟨g', cap', cur, h', hb, hg, hnc, _, hcs, htake⟩
  · simp at h'
  · simp only [Value.slice.injEq, Option.some.injEq, Addr.mk.injEq, and_true, true_and] at h'
    obtain ⟨rfl, rfl⟩ := h'
    rw [Nat.mul_one] at hcs htake
    have hcur : cur.toList = row cap (fun j => cur.toList.getD j undef) := by
      apply List.ext_getElem?
      intro j
      by_cases hj : j < cap
      · rw [row_get hj, List.getD_eq_getElem?_getD, List.getElem?_eq_getElem (by simpa [hcs] using hj)]; rfl
      · rw [List.getElem?_eq_none (by simp [hcs]; omega), List.getElem?_eq_none (by rw [row_length]; omega)]
    refine ⟨fun j => cur.toList.getD j undef, ?_, hnc, hb, fun j hj => ?_⟩
    · unfold Arr Blk
      rw [← hcur]
      exact hg
    · have h1 : (cur.toList.take n)[j]? = some (F j) := by
        rw [htake]
        exact row_get (by omega)
      rw [List.getElem?_take, if_pos hj] at h1
      show cur.toList.getD j undef = F j
      rw [List.getD_eq_getElem?_getD, h1]; rfl

theorem grown_on {a b c : World} {r : Option Nat} (h : a.grownBy b r) (k : b.grownBy c r) : a.grownBy c r :=
  ⟨k.os.trans h.os, k.tape.trans h.tape, k.output.trans h.output, Nat.le_trans h.size k.size, fun i hi hne => (k.block i (Nat.lt_of_lt_of_le hi h.size) hne).trans (h.block i hi hne)⟩
theorem or_hi (a b : Nat) (ha : a < 4294967296) (hb : b < 4294967296) : bits .or .u64 ((a : Int) * 4294967296) (b : Int) = ((a * 4294967296 + b : Nat) : Int) := by
  have h := Go.bits_or_u64_nat (a * 4294967296) b (by omega) (by omega)
  have h2 := Nat.two_pow_add_eq_or_of_lt (i := 32) (b := b) (by omega) a
  rw [show (2 : Nat) ^ 32 = 4294967296 by rfl] at h2
  rw [show ((a : Int) * 4294967296) = ((a * 4294967296 : Nat) : Int) by omega, h, Nat.mul_comm a, ← h2]

/-- The rest of N above digit k, divided by d. -/
def rest (N d k : Nat) : Nat := N / 4294967296 ^ k % d
theorem rest_lt {N d k : Nat} (hd : 0 < d) : rest N d k < d := Nat.mod_lt _ hd
theorem rest_end (N d : Nat) : rest N d 0 = N % d := by simp [rest]
theorem rest_top {N d n : Nat} (h : Fit32 N n) : rest N d n = 0 := by
  unfold rest; rw [Nat.div_eq_of_lt h, Nat.zero_mod]
theorem rest_quo {N d k : Nat} (hd : 0 < d) : (rest N d (k + 1) * 4294967296 + d32 N k) / d = d32 (N / d) k := (Nt.small_quo (by omega) hd).symm
theorem rest_mod {N d k : Nat} (hd : 0 < d) : (rest N d (k + 1) * 4294967296 + d32 N k) % d = rest N d k := (Nt.small_rem (by omega) hd).symm
/-- The limbs behind the division of those from k on. -/
def dcell (N d n : Nat) (F : Nat → Value) (k t : Nat) : Value := if t < k then .int .u32 (d32 N t : Int) else if t < n then .int .u32 (d32 (N / d) t : Int) else F t
theorem dcell_next {N d n k : Nat} (F : Nat → Value) (hk : k < n) (t : Nat) : dcell N d n F k t = if t = k then .int .u32 (d32 (N / d) k : Int) else dcell N d n F (k + 1) t := by
  unfold dcell
  by_cases e : t = k
  · subst e; rw [if_neg (by omega), if_pos hk, if_pos rfl]
  · rw [if_neg e]
    by_cases h : t < k
    · rw [if_pos h, if_pos (by omega)]
    · rw [if_neg h, if_neg (show ¬ t < k + 1 by omega)]

set_option maxHeartbeats 1000000 in
set_option maxRecDepth 100000 in
theorem dsmall_any {g n c M N d : Nat} {F : Nat → Value} {w : World} (hn : 0 < n) (hn2 : n ≤ 1000) (hM : n ≤ M) (hd0 : 0 < d) (hd1 : d < 4294967296) (hN : Fit32 N n) (hA : Arr w g 65 M F) (hF : ∀ j, j < n → F j = .int .u32 (d32 N j : Int)) :
    Calls Tryz.prog 77 #[.slice (some ⟨g, 0, none⟩) n c, .int .u32 (d : Int)] w fun e w' => e = .returned (.int .u32 ((N % d : Nat) : Int)) ∧ Arr w' g 65 M (dcell N d n F 0) ∧ w.grownBy w' (some g) := by
  have HA := Lib.hid (hA.congr (F' := dcell N d n F n) fun j hj => by
    unfold dcell
    by_cases h : j < n
    · rw [if_pos h]; exact hF j h
    · rw [if_neg h, if_neg h])
  have HR := Lib.hid (rest_top (d := d) hN)
  have HE := Lib.hid (rest_end N d)
  clear hA hF hN
  go_enter Tryz.func77, Tryz.ntmps77
  go_wp2
  go_loopw [5, 6] (fun r i wr => ∃ k : Nat, k ≤ n ∧ i = .int .i64 ((k : Int) - 1) ∧ r = .int .u64 (rest N d k : Int) ∧ Hid (Arr wr g 65 M (dcell N d n F k)) ∧ Hid (w.grownBy wr (some g))) (fun _ i _ => (intOf i + 1).toNat)
  case atStart => exact ⟨n, Nat.le_refl _, rfl, by rw [HR.out]; rfl, HA, only_refl _ _⟩
  case round =>
    obtain ⟨k, hk, rfl, rfl, HA1, HG1⟩ := hrel
    by_cases hk0 : 0 < k
    · obtain ⟨j, rfl⟩ : ∃ j, k = j + 1 := ⟨k - 1, by omega⟩
      have ej : ((j + 1 : Nat) : Int) - 1 = (j : Int) := by omega
      rw [ej]
      clear ej
      obtain ⟨hc, hf⟩ := HA1.out.at_ (show j < M by omega)
      have hc2 : wr.cell? ⟨g, j, none⟩ = some (.int .u32 (d32 N j : Int)) := by rw [hc]; unfold dcell; rw [if_pos (by omega)]
      clear hc
      have hd := d32_lt N j
      have hr := rest_lt (N := N) (k := j + 1) hd0
      have hq := d32_lt (N / d) j
      have hor := or_hi (rest N d (j + 1)) (d32 N j) (by omega) hd
      obtain ⟨T, hT⟩ : ∃ T, T = rest N d (j + 1) * 4294967296 + d32 N j := ⟨_, rfl⟩
      rw [← hT] at hor
      have hTq : ((T : Nat) : Int) / (d : Int) = (d32 (N / d) j : Int) := by rw [hT]; have := rest_quo (N := N) (k := j) hd0; rw [← this, Int.natCast_ediv]
      have hTr : ((T : Nat) : Int) % (d : Int) = (rest N d j : Int) := by rw [hT]; have := rest_mod (N := N) (k := j) hd0; rw [← this, Int.natCast_emod]
      have hT2 : T ≤ 18446744073709551615 := by omega
      have hr2 := rest_lt (N := N) (k := j) hd0
      clear hT
      go_wp2
      go_roundw
      case rel =>
        rw [hTr]
        have hp := HA1.out.put (k := j) (F' := dcell N d n F j) (u := .int .u32 (d32 (N / d) j : Int)) fun t _ => dcell_next F (by omega) t
        exact ⟨j, by omega, rfl, rfl, hp.1, grown_on HG1.out hp.2⟩
      case measure => simp [intOf]
    · obtain rfl : k = 0 := by omega
      have hr2 := rest_lt (N := N) (k := 0) hd0
      go_wp2
      go_ret
      exact ⟨ret_int (by rw [← HE.out]), HA1.out, HG1.out⟩
end Go.Proofs.YtdcmpnjhomhhiaaGreat
