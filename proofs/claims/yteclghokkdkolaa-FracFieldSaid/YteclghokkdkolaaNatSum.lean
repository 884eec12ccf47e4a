/- The walks of nat.bounded, nat.Add and nat.Sub. -/
import Derived.Test.YteclghokkdkolaaNatForm
import Derived.Test.YteclghokkdkolaaNatOwn
import Derived.Deep.DeepCutAuto
set_option linter.unusedVariables false
namespace Go.Proofs.Yteclghokkdkolaa
open Go.RowKit

theorem Try.infoU : (Try.prog.info? 43).map (fun i => (i.zero, i.size, i.bytes)) = some (some (.int .u32 0), 1, 4) := by kernel_rfl

set_option maxHeartbeats 400000 in
theorem bounded_any {B : Nat} {D : Option Addr} {m c N : Nat} {w : World} (hm : m ≤ 9223372036854775807) (hmc : m ≤ c) (hN : Fit32 N m) (h : Cells w D m (Lm (d32 N))) (hB : Fresh B D) :
    Calls Try.prog 78 #[.slice D m c] w fun e w' => NatRes B w' e N ∧ Below w.heap.size w w' := by
  have HN := Lib.hid hN
  have hb0 := (Below.refl w.heap.size w).alloc (Nat.le_refl _) (.cells #[.slice none 0 0] 24)
  have hk0 := Blk.new w 24 #[.slice none 0 0]
  have HB := Lib.hid hb0
  have HK := Lib.hid hk0
  have hL9 : L32 N ≤ 9223372036854775807 := Nat.le_trans (fit32_le hN) hm
  clear hN hb0 hk0
  go_enter Try.func78, Try.ntmps78
  go_wp2_with fail
  refine (trimmed_any hm hmc HN.out (h.below HB.out)).mono ?_
  rintro e w1 ⟨D', c', rfl, hlc, hc, hb1, hD⟩
  have HB1 := Lib.hid (HB.out.trans (hb1.mono HB.out.size))
  have HK1 := Lib.hid (HK.out.keep hb1)
  have hq := HK1.out.cell 0
  have hf := HK1.out.frozen 0
  have hlt := HK1.out.lt
  have HC := Lib.hid hc
  have HD := Lib.hid hD
  obtain ⟨l, hl⟩ : ∃ l, l = L32 N := ⟨_, rfl⟩
  rw [← hl] at hL9 hlc HC ⊢
  have HL := Lib.hid hl
  clear hb1 hc hD HB HK hl
  unfold natv
  by_cases h64 : l ≤ 64
  · go_wp2
    refine bodyPost_ret (v := .tuple #[natv D' l c', .int .i64 0]) (by unfold natv; simp [results, Try.results78, go_sem, hq, hlt]) rfl ?_
    have hb2 := (HB1.out.setCell (p := ⟨w.heap.size, 0, none⟩) (Nat.le_refl _) (.slice D' l c')).alloc (by simpa using HB1.out.size) (.cells #[.slice D' l c'] 24)
    refine ⟨.inl ⟨by rw [← HL.out]; exact h64, D', c', by rw [← HL.out], by rw [← HL.out]; exact hlc, ?_, hB.same HD.out⟩, hb2⟩
    rw [← HL.out]
    exact h.of_same (by rw [HL.out]; exact fit32_le HN.out) HC.out HD.out hb2
  · go_wp2
    refine bodyPost_ret (v := .tuple #[natv none 0 0, .int .i64 9]) (by unfold natv; simp [results, Try.results78, go_sem, hq, hlt]) rfl ?_
    have hb2 := (HB1.out.setCell (p := ⟨w.heap.size, 0, none⟩) (Nat.le_refl _) (.slice none 0 0)).alloc (by simpa using HB1.out.size) (.cells #[.slice D' l c'] 24)
    exact ⟨.inr ⟨by rw [← HL.out]; omega, rfl⟩, hb2⟩

/-- The boxes of two numbers and of a result. -/
structure Bo (w w' : World) (S T R : Value) : Prop where
  below : Below w.heap.size w w'
  b0 : Blk w' w.heap.size 24 #[S]
  b1 : Blk w' (w.heap.size + 1) 24 #[T]
  b2 : Blk w' (w.heap.size + 1 + 1) 24 #[R]
theorem Bo.new (w : World) (S T R : Value) : Bo w (((w.alloc (.cells #[S] 24)).alloc (.cells #[T] 24)).alloc (.cells #[R] 24)) S T R := by
  refine ⟨(((Below.refl w.heap.size w).alloc (Nat.le_refl _) _).alloc (by simp) _).alloc (by simp; omega) _, ((Blk.new w _ _).alloc _).alloc _, ?_, ?_⟩
  · have := (Blk.new (w.alloc (.cells #[S] 24)) 24 #[T]).alloc (.cells #[R] 24)
    rwa [World.size_alloc] at this
  · have := Blk.new ((w.alloc (.cells #[S] 24)).alloc (.cells #[T] 24)) 24 #[R]
    rwa [World.size_alloc, World.size_alloc] at this
theorem Bo.on {w w' w'' : World} {S T R : Value} (h : Bo w w' S T R) (k : Below w'.heap.size w' w'') : Bo w w'' S T R :=
  ⟨Below.on h.below k, h.b0.keep k, h.b1.keep k, h.b2.keep k⟩
theorem Bo.drewN {w w' : World} {S T R : Value} (h : Bo w w' S T R) (n : Nat) : Bo w (w'.drewN n) S T R := ⟨below_drewN h.below n, h.b0, h.b1, h.b2⟩
theorem Bo.grown {w w' w'' : World} {S T R : Value} (h : Bo w w' S T R) {g : Nat} (hg : w'.grownBy w'' (some g)) (hlt : w.heap.size + 1 + 1 < g) (hg2 : g < w'.heap.size) : Bo w w'' S T R :=
  ⟨h.below.trans ((only_below hg (by omega)).mono (by omega)), h.b0.grown hg (by intro e; injection e; omega), h.b1.grown hg (by intro e; injection e; omega), h.b2.grown hg (by intro e; injection e; omega)⟩
theorem Bo.fresh {w w' w'' : World} {S T R : Value} (h : Bo w w' S T R) (hg : w'.grownBy w'' none) : Bo w w'' S T R :=
  h.on ⟨hg.os, hg.tape, hg.output, hg.size, fun k hk => hg.block k hk (by simp)⟩
theorem Bo.facts {w w' : World} {S T R : Value} (h : Bo w w' S T R) : w'.cell? ⟨w.heap.size, 0, none⟩ = some S ∧ w'.cell? ⟨w.heap.size + 1, 0, none⟩ = some T ∧ w'.cell? ⟨w.heap.size + 1 + 1, 0, none⟩ = some R ∧ w'.frozen? ⟨w.heap.size + 1 + 1, 0, none⟩ = false ∧ w.heap.size + 1 + 1 < w'.heap.size :=
  ⟨h.b0.cell 0, h.b1.cell 0, h.b2.cell 0, h.b2.frozen 0, h.b2.lt⟩
theorem vd_true {n x : Nat} (hn : n ≤ 64) (hx : n = L32 x) : vd n (d32 x) = true := by
  unfold vd
  simp only [Bool.and_eq_true, Bool.or_eq_true, decide_eq_true_eq, beq_iff_eq, bne_iff_ne]
  refine ⟨hn, ?_⟩
  rcases Nat.eq_zero_or_pos n with e | e
  · exact .inl e
  · right; have := len32_top (N := x) (by omega); rw [← hx] at this; omega

set_option maxHeartbeats 1000000 in
set_option maxRecDepth 100000 in
theorem add_any {D E : Option Addr} {n m c c' x y : Nat} {w : World} (hn : n ≤ 64) (hm : m ≤ 64) (hnx : n = L32 x) (hmy : m = L32 y) (hx : Cells w D n (Lm (d32 x))) (hy : Cells w E m (Lm (d32 y))) :
    Calls Try.prog 52 #[natv D n c, natv E m c'] w fun e w' => NatRes w.heap.size w' e (x + y) ∧ Below w.heap.size w w' := by
  obtain ⟨i0, hi, hz0, hz1, hz2⟩ := info_parts Try.infoU
  have hvx := Lib.hid (vd_true hn hnx)
  have hvy := Lib.hid (vd_true hm hmy)
  have HX := Lib.hid hnx
  have HY := Lib.hid hmy
  clear hnx hmy
  unfold natv
  have BO0 := Lib.hid (Bo.new w (.slice D n c) (.slice E m c') (.slice none 0 0))
  go_enter Try.func52, Try.ntmps52
  go_wp2_with fail
  refine (nvalid_is (by omega) (hx.below BO0.out.below) hvx.out).mono ?_
  rintro e w1 ⟨rfl, hb1⟩
  have BO1 := Lib.hid (BO0.out.on hb1)
  obtain ⟨q0, q1, q2, f2, hlt⟩ := BO1.out.facts
  clear hb1 BO0
  go_wp2_with fail
  refine (nvalid_is (by omega) (hy.below BO1.out.below) hvy.out).mono ?_
  rintro e w2 ⟨rfl, hb1⟩
  clear q0 q1 q2 f2 hlt
  have BO2 := Lib.hid (BO1.out.on hb1)
  obtain ⟨q0, q1, q2, f2, hlt⟩ := BO2.out.facts
  clear hb1 BO1
  go_wp2
  go_quiet (fail)
  go_upto_if 29 with (fail)
  go_cut [6, 7] (fun s6 s7 wx => ∃ (D1 E1 : Option Addr) (n1 m1 c1 c2 x1 y1 : Nat), s6 = .slice D1 n1 c1 ∧ s7 = .slice E1 m1 c2 ∧ m1 ≤ n1 ∧ n1 ≤ 64 ∧ Hid (x1 + y1 = x + y ∧ n1 = L32 x1 ∧ m1 = L32 y1) ∧ Cells w D1 n1 (Lm (d32 x1)) ∧ Cells w E1 m1 (Lm (d32 y1)) ∧ Hid (Bo w wx (.slice D n c) (.slice E m c') (.slice none 0 0)))
  case first =>
    by_cases hnm : n < m
    · go_wp2
      go_meet
      case rel => exact ⟨E, D, m, n, _, _, y, x, rfl, rfl, by omega, by omega, ⟨by omega, HY.out, HX.out⟩, hy, hx, BO2.out.drewN _⟩
    · go_wp2
      go_meet
      case rel => exact ⟨D, E, n, m, _, _, x, y, rfl, rfl, by omega, by omega, ⟨by omega, HX.out, HY.out⟩, hx, hy, BO2.out.drewN _⟩
  case rest =>
    obtain ⟨D1, E1, n1, m1, c1, c2, x1, y1, rfl, rfl, hmn, hn1, HXY, hx1, hy1, BO3⟩ := hcut
    clear hvx hvy HX HY hx hy
    have hgw := BO3.out.facts.2.2.2.2
    have hbs := BO3.out.below.size
    go_wp2_with (at_make; refine wpList_make_full _ rfl _ _ 22 rfl (w.heap.size + 1 + 1 + 1) 43 i0 (.int .u32 0) 1 Try.underlying22 hi hz0 hz1 _ _ _ _ (n1 + 1) rfl rfl ?c1 ?c2 ?c3 ?c4 ?c5 ?_)
    case c1 => omega
    case c2 => omega
    case c3 => rw [hz2]; omega
    case c4 => unfold maxLen; omega
    case c5 => omega
    intro w4 hown1 hgr1
    have BO4 := Lib.hid (BO3.out.fresh hgr1)
    have hgl := (hown1.lt _ rfl).2
    have HO := Lib.hid (own_congr (F' := Lm (upto (d32 (x1 + y1)) 0)) (made_own (z := .int .u32 0) hown1) fun j hj => by unfold Lm upto; rw [if_neg (by omega)]; rfl)
    clear hown1 hgr1 hbs BO3
    generalize wc.heap.size = g at *
    go_wp2
    go_loopw [9, 38] (fun cr i wr => ∃ k : Nat, k ≤ n1 ∧ i = .int .i64 k ∧ cr = .int .u64 (c32 x1 y1 k) ∧ Hid (wr.ownsRow (w.heap.size + 1 + 1 + 1) 43 1 (.slice (some ⟨g, 0, none⟩) (n1 + 1) (n1 + 1)) (n1 + 1) (row ((n1 + 1) * 1) (Lm (upto (d32 (x1 + y1)) k)))) ∧ Hid (Bo w wr (.slice D n c) (.slice E m c') (.slice none 0 0)) ∧ g < wr.heap.size) (fun _ i _ => n1 - (intOf i).toNat)
    case atStart => exact ⟨0, Nat.zero_le _, rfl, by rw [c32_zero]; rfl, HO, BO4, hgl⟩
    case round =>
      obtain ⟨k, hk, rfl, rfl, HO1, BO5, hgl5⟩ := hrel
      have hst := c32_step x1 y1 k
      have hcl := c32_le x1 y1 k
      have hcl2 := c32_le x1 y1 (k + 1)
      have hd1 := d32_lt x1 k
      have hd2 := d32_lt y1 k
      have hd3 := d32_lt (x1 + y1) k
      by_cases hkn : k < n1
      · obtain ⟨b1, o1, rfl, hlt1, hc1⟩ := (hx1.below BO5.out.below).lm hkn
        obtain ⟨hog, hof⟩ := own_at HO1.out (show k < n1 + 1 by omega)
        have hog2 : wr.cell? ⟨g, k, none⟩ = some (.int .u32 ((0 : Nat) : Int)) := by rw [hog]; unfold Lm; rw [upto_at]
        have HU := Lib.hid fun j => upto_next (d32 (x1 + y1)) k j
        clear hog
        have HST := Lib.hid hst
        clear hst
        by_cases hkm : k < m1
        · obtain ⟨b2, o2, rfl, hlt2, hc2⟩ := (hy1.below BO5.out.below).lm hkm
          go_wp2
          go_roundw
          case rel =>
            have e1 : ((c32 x1 y1 k : Int) + d32 x1 k + d32 y1 k) % 4294967296 = (d32 (x1 + y1) k : Int) := by have := HST.out; omega
            have e2 : ((c32 x1 y1 k : Int) + d32 x1 k + d32 y1 k) / 4294967296 = (c32 x1 y1 (k + 1) : Int) := by have := HST.out; omega
            rw [e1, e2]
            have hp := own_put (k := k) (F' := Lm (upto (d32 (x1 + y1)) (k + 1))) HO1.out fun j _ => HU.out j
            exact ⟨k + 1, by omega, by go_num, rfl, hp.1, BO5.out.grown hp.2 hgw hgl5, by simpa using hgl5⟩
          case measure => simp [intOf]; omega
        · have hz : d32 y1 k = 0 := d32_high (by rw [← HXY.out.2.2]; omega)
          have HZ := Lib.hid hz
          clear hz
          go_wp2
          go_roundw
          case rel =>
            have e1 : ((c32 x1 y1 k : Int) + d32 x1 k) % 4294967296 = (d32 (x1 + y1) k : Int) := by have := HST.out; have := HZ.out; omega
            have e2 : ((c32 x1 y1 k : Int) + d32 x1 k) / 4294967296 = (c32 x1 y1 (k + 1) : Int) := by have := HST.out; have := HZ.out; omega
            rw [e1, e2]
            have hp := own_put (k := k) (F' := Lm (upto (d32 (x1 + y1)) (k + 1))) HO1.out fun j _ => HU.out j
            exact ⟨k + 1, by omega, by go_num, rfl, hp.1, BO5.out.grown hp.2 hgw hgl5, by simpa using hgl5⟩
          case measure => simp [intOf]; omega
      · obtain rfl : k = n1 := by omega
        obtain ⟨hog, hof⟩ := own_at HO1.out (show k < k + 1 by omega)
        have hog2 : wr.cell? ⟨g, k, none⟩ = some (.int .u32 ((0 : Nat) : Int)) := by rw [hog]; unfold Lm; rw [upto_at]
        have htop := Lib.hid (c32_top (x := x1) (y := y1) (n := k) (by rw [HXY.out.2.1]; exact fit32_len x1) (fit32_of (by rw [← HXY.out.2.2]; exact hmn)))
        have hp := own_put (k := k) (u := .int .u32 (c32 x1 y1 k : Int)) (F' := Lm (upto (d32 (x1 + y1)) (k + 1))) HO1.out fun j _ => by rw [upto_next, htop.out.1]
        have HP := Lib.hid (Cells.of_own (own_congr (F' := Lm (d32 (x1 + y1))) hp.1 fun j hj => by unfold Lm; rw [upto_lt hj]))
        have HF := Lib.hid (Fresh.of_own hp.1)
        have BO6 := Lib.hid (BO5.out.grown hp.2 hgw hgl5)
        obtain ⟨q0, q1, q2, f2, hlt⟩ := BO5.out.facts
        clear hog hp hst
        go_wp2_with fail
        refine (bounded_any (B := w.heap.size + 1 + 1 + 1) (by omega) (Nat.le_refl _) htop.out.2 (by rw [← Nat.mul_one (k + 1)]; exact HP.out) HF.out).mono ?_
        rintro e w5 ⟨hres, hb5⟩
        have BO7 := Lib.hid (BO6.out.on hb5)
        clear q0 q1 q2 f2 hlt
        obtain ⟨q0, q1, q2, f2, hlt⟩ := BO7.out.facts
        rw [HXY.out.1] at hres
        rcases hres with ⟨h64, Dr, cr, rfl, hlc, hcr, hfr⟩ | ⟨h64, rfl⟩
        · unfold natv
          obtain ⟨l, hl⟩ : ∃ l, l = L32 (x + y) := ⟨_, rfl⟩
          rw [← hl] at hlc hcr h64 ⊢
          have HL := Lib.hid hl
          have HCR := Lib.hid hcr
          clear hl hcr hb5
          go_wp2
          refine bodyPost_ret (v := .tuple #[natv Dr l cr, .int .i64 0]) (by unfold natv; simp [results, Try.results52, go_sem, q2]) rfl ?_
          have hb8 := BO7.out.below.setCell (p := ⟨w.heap.size + 1 + 1, 0, none⟩) (by simp; omega) (.slice Dr l cr)
          refine ⟨.inl ⟨by rw [← HL.out]; exact h64, Dr, cr, by rw [← HL.out], by rw [← HL.out]; exact hlc, by rw [← HL.out]; exact HCR.out.set_ hfr (Nat.lt_succ_self _) _ _, hfr.mono (by omega)⟩, hb8⟩
        · unfold natv
          go_wp2
          refine bodyPost_ret (v := .tuple #[natv none 0 0, .int .i64 9]) (by unfold natv; simp [results, Try.results52, go_sem, q2]) rfl ?_
          exact ⟨.inr ⟨h64, rfl⟩, BO7.out.below.setCell (p := ⟨w.heap.size + 1 + 1, 0, none⟩) (by simp; omega) _⟩
end Go.Proofs.Yteclghokkdkolaa
