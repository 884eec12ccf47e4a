/- The walk of tiny. -/
import Derived.Test.YtdcmpnjhomhhiaaGreatTopGame
import Derived.Deep.WholeRow
set_option linter.unusedVariables false
namespace Go.Proofs.YtdcmpnjhomhhiaaGreat
open Go.RowKit Fr Fa
namespace Tp
abbrev TA5 : TypeId := 22
/-- How many tiers stand behind the first i rows and j of the next. -/
def cntf (m b i j : Nat) : Nat := min (i * (b + 1) + j) (nT m b)
theorem cnt_end (m b : Nat) : cntf m b (m + 1) 0 = nT m b := by
  unfold cntf nT; omega
theorem cnt_next (m b i : Nat) : cntf m b i (b + 1) = cntf m b (i + 1) 0 := by
  unfold cntf; rw [Nat.succ_mul]; rfl
theorem cnt_at {m b i j : Nat} (hi : i ≤ m) (hj : j ≤ b) (h : i < m ∨ j < b) : cntf m b i j = i * (b + 1) + j ∧ cntf m b i (j + 1) = cntf m b i j + 1 := by
  have h1 : i * (b + 1) + j < nT m b := by
    unfold nT
    rw [Nat.succ_mul]
    rcases h with h | h
    · have := Nat.mul_le_mul_right (b + 1) (show i + 1 ≤ m by omega)
      rw [Nat.succ_mul] at this
      omega
    · have := Nat.mul_le_mul_right (b + 1) hi
      omega
  unfold cntf
  omega
theorem cnt_stop (m b : Nat) : cntf m b m (b + 1) = cntf m b m b := by
  unfold cntf nT
  rw [Nat.succ_mul]
  omega
theorem cnt_le {m b : Nat} (hm : m ≤ 3) (hb : b ≤ 1) (i j : Nat) : cntf m b i j ≤ 7 := by
  have : nT m b ≤ 7 := by
    unfold nT
    have := Nat.mul_le_mul (show m + 1 ≤ 4 by omega) (show b + 1 ≤ 2 by omega)
    omega
  unfold cntf
  omega
theorem rem_nat (a b : Nat) : (a : Int).tmod (b : Int) = ((a % b : Nat) : Int) := rfl
set_option maxHeartbeats 8000000 in
set_option maxRecDepth 100000 in
theorem tiny_any (w : World) {s0 s1 s2 s3 s4 m n b c x : Nat} (hm : m = s0 % 3 + 1) (hn : n = m + s1 % 4 + 1) (hx : x = s2 % 2) (hb : b = s3 % 2) (hc : c = b * (s4 % 3 + 1)) : Calls Tryz.prog 4 #[.agg #[.int .u8 (s0 : Int), .int .u8 (s1 : Int), .int .u8 (s2 : Int), .int .u8 (s3 : Int), .int .u8 (s4 : Int)]] w fun e w' => (∃ D k, e = .returned (.agg (tg m n b c x D (nT m b) k)) ∧ Cells w' D (nT m b * 6) (Six (tP m b) (tQ b)) ∧ nT m b ≤ k) ∧ Below w.heap.size w w' := by
  obtain ⟨i0, hi, hz0, hz1, hz2⟩ := info_parts infoT
  have HLO := Lib.hid (fun (w : World) => lotto_any w)
  obtain ⟨a0, e0⟩ : ∃ z, z = s0 % 3 := ⟨_, rfl⟩
  obtain ⟨a1, e1⟩ : ∃ z, z = s1 % 4 := ⟨_, rfl⟩
  obtain ⟨a4, e4⟩ : ∃ z, z = s4 % 3 := ⟨_, rfl⟩
  have l0 : a0 ≤ 2 := by omega
  have l1 : a1 ≤ 3 := by omega
  have l4 : a4 ≤ 2 := by omega
  have lx : x ≤ 1 := by omega
  have lb : b ≤ 1 := by omega
  have r0 : (s0 : Int).tmod 3 = (a0 : Int) := by rw [e0]; rfl
  have r1 : (s1 : Int).tmod 4 = (a1 : Int) := by rw [e1]; rfl
  have r2 : (s2 : Int).tmod 2 = (x : Int) := by rw [hx]; rfl
  have r3 : (s3 : Int).tmod 2 = (b : Int) := by rw [hb]; rfl
  have r4 : (s4 : Int).tmod 3 = (a4 : Int) := by rw [e4]; rfl
  have c0 : IntKind.i64.wrap (a0 : Int) = (a0 : Int) := IntWalk.i64_in _ (by omega)
  have c1 : IntKind.i64.wrap (a1 : Int) = (a1 : Int) := IntWalk.i64_in _ (by omega)
  have c2 : IntKind.i64.wrap (x : Int) = (x : Int) := IntWalk.i64_in _ (by omega)
  have c3 : IntKind.i64.wrap (b : Int) = (b : Int) := IntWalk.i64_in _ (by omega)
  have c4 : IntKind.i64.wrap (a4 : Int) = (a4 : Int) := IntWalk.i64_in _ (by omega)
  have d0 : IntKind.i64.wrap ((a0 : Int) + 1) = (m : Int) := by rw [IntWalk.i64_in _ (by omega)]; omega
  obtain ⟨n1, hn1⟩ : ∃ z, z = m + a1 := ⟨_, rfl⟩
  have d1 : IntKind.i64.wrap ((m : Int) + (a1 : Int)) = (n1 : Int) := by rw [IntWalk.i64_in _ (by omega)]; omega
  have d2 : IntKind.i64.wrap ((n1 : Int) + 1) = (n : Int) := by rw [IntWalk.i64_in _ (by omega)]; omega
  obtain ⟨a5, e5⟩ : ∃ z, z = a4 + 1 := ⟨_, rfl⟩
  have d4 : IntKind.i64.wrap ((a4 : Int) + 1) = (a5 : Int) := by rw [IntWalk.i64_in _ (by omega)]; omega
  have hbm : (b : Int) * (a5 : Int) = (c : Int) := by rw [hc, e5, e4]; exact (Int.natCast_mul _ _).symm
  have lc : c ≤ 3 := by
    rw [hc, ← e4]
    exact Nat.le_trans (Nat.mul_le_mul lb (show a4 + 1 ≤ 3 by omega)) (by omega)
  have d5 : IntKind.i64.wrap ((b : Int) * (a5 : Int)) = (c : Int) := by rw [hbm, IntWalk.i64_in _ (by omega)]
  have lm : m ≤ 3 := by omega
  clear hn1 e5 e4 e1 e0 hm hn hx hb hc hbm
  have BS0 := Lib.hid (box2 w TA5 TG #[.int .u8 (s0 : Int), .int .u8 (s1 : Int), .int .u8 (s2 : Int), .int .u8 (s3 : Int), .int .u8 (s4 : Int)] #[.string ⟨#[]⟩, .int .i64 0, .int .i64 0, .int .i64 0, .int .i64 0, .int .i64 0, .int .i64 0, .int .i64 0, .int .i64 0, .int .i64 0, .int .i64 0, .int .i64 0, .int .i64 0, .int .i64 0, .int .i64 0, .int .i64 0, .int .i64 0, .int .i64 0, .int .i64 0, .int .i64 0, .slice none 0 0, .slice none 0 0])
  go_enter Tryz.func4, Tryz.ntmps4
  go_upto_region 1 with (fail)
  obtain ⟨wa, hwa⟩ : ∃ wa, wa = ((w.alloc (.cells #[.int .u8 (s0 : Int), .int .u8 (s1 : Int), .int .u8 (s2 : Int), .int .u8 (s3 : Int), .int .u8 (s4 : Int)] TA5)).alloc (.cells #[.string ⟨#[]⟩, .int .i64 0, .int .i64 0, .int .i64 0, .int .i64 0, .int .i64 0, .int .i64 0, .int .i64 0, .int .i64 0, .int .i64 0, .int .i64 0, .int .i64 0, .int .i64 0, .int .i64 0, .int .i64 0, .int .i64 0, .int .i64 0, .int .i64 0, .int .i64 0, .int .i64 0, .slice none 0 0, .slice none 0 0] TG)) := ⟨_, rfl⟩
  change Code.wp _ _ _ _ ((w.alloc (.cells #[.int .u8 (s0 : Int), .int .u8 (s1 : Int), .int .u8 (s2 : Int), .int .u8 (s3 : Int), .int .u8 (s4 : Int)] TA5)).alloc (.cells #[.string ⟨#[]⟩, .int .i64 0, .int .i64 0, .int .i64 0, .int .i64 0, .int .i64 0, .int .i64 0, .int .i64 0, .int .i64 0, .int .i64 0, .int .i64 0, .int .i64 0, .int .i64 0, .int .i64 0, .int .i64 0, .int .i64 0, .int .i64 0, .int .i64 0, .int .i64 0, .int .i64 0, .slice none 0 0, .slice none 0 0] TG))
  rw [← hwa] at BS0 ⊢
  have HB := Lib.hid BS0.out.below
  obtain ⟨_, lz, kz⟩ := BS0.out.get (.head _)
  obtain ⟨zb, hzb⟩ : ∃ g, g = w.heap.size + 1 := ⟨_, rfl⟩
  rw [← hzb] at kz lz
  rw [show (Value.pointer (some ⟨w.heap.size + 1, 0, none⟩)) = .pointer (some ⟨zb, 0, none⟩) by rw [hzb]]
  have Sz := Lib.hid (show w.heap.size ≤ zb by omega)
  have Kz := Lib.hid kz
  clear kz lz
  obtain ⟨_, ls, ks⟩ := BS0.out.get (.tail _ (.head _))
  obtain ⟨sb, hsb⟩ : ∃ g, g = w.heap.size := ⟨_, rfl⟩
  rw [← hsb] at ks ls
  rw [show (Value.pointer (some ⟨w.heap.size, 0, none⟩)) = .pointer (some ⟨sb, 0, none⟩) by rw [hsb]]
  have Ss := Lib.hid (show w.heap.size ≤ sb by omega)
  have Ks := Lib.hid ks
  clear ks ls
  clear hwa BS0 hsb hzb
  go_wp2_with fail
  with_reducible refine (HLO.out _).mono ?_
  rintro e w1 ⟨⟨D0, rfl⟩, hb1⟩
  replace HB := Lib.hid (Below.on HB.out hb1)
  replace Ks := Lib.hid (Ks.out.keep hb1)
  replace Kz := Lib.hid (Kz.out.keep hb1)
  clear hb1
  have HGN := Lib.hid (heap_alloc_last w1 (.cells #[.string ⟨#[]⟩, .int .i64 0, .int .i64 0, .int .i64 0, .int .i64 0, .int .i64 0, .int .i64 0, .int .i64 0, .int .i64 0, .int .i64 0, .int .i64 0, .int .i64 0, .int .i64 0, .int .i64 0, .int .i64 0, .int .i64 0, .int .i64 0, .int .i64 0, .int .i64 0, .int .i64 0, .slice none 0 0, .slice none 0 0] TG))
  go_upto_region 2 with (refine wpList_store_row rfl TG _ _ rfl w1.heap.size #[.string lotto, .int .i64 1, .int .i64 200, .int .i64 2, .int .i64 6, .int .i64 0, .int .i64 0, .int .i64 0, .int .i64 4, .int .i64 4, .int .i64 32, .int .i64 1230, .int .i64 30, .int .i64 15, .int .i64 90, .int .i64 5000, .int .i64 0, .int .i64 1, .int .i64 0, .int .i64 0, .slice none 0 0, .slice D0 1 1] rfl rfl TG #[.string ⟨#[]⟩, .int .i64 0, .int .i64 0, .int .i64 0, .int .i64 0, .int .i64 0, .int .i64 0, .int .i64 0, .int .i64 0, .int .i64 0, .int .i64 0, .int .i64 0, .int .i64 0, .int .i64 0, .int .i64 0, .int .i64 0, .int .i64 0, .int .i64 0, .int .i64 0, .int .i64 0, .slice none 0 0, .slice none 0 0] HGN.out (by kernel_rfl) rfl (by kernel_rfl) ?_; rw [World.setRow_alloc_new])
  obtain ⟨wt, hwt⟩ : ∃ wt, wt = w1.alloc (.cells #[.string lotto, .int .i64 1, .int .i64 200, .int .i64 2, .int .i64 6, .int .i64 0, .int .i64 0, .int .i64 0, .int .i64 4, .int .i64 4, .int .i64 32, .int .i64 1230, .int .i64 30, .int .i64 15, .int .i64 90, .int .i64 5000, .int .i64 0, .int .i64 1, .int .i64 0, .int .i64 0, .slice none 0 0, .slice D0 1 1] TG) := ⟨_, rfl⟩
  change Code.wp _ _ _ _ (w1.alloc (.cells #[.string lotto, .int .i64 1, .int .i64 200, .int .i64 2, .int .i64 6, .int .i64 0, .int .i64 0, .int .i64 0, .int .i64 4, .int .i64 4, .int .i64 32, .int .i64 1230, .int .i64 30, .int .i64 15, .int .i64 90, .int .i64 5000, .int .i64 0, .int .i64 1, .int .i64 0, .int .i64 0, .slice none 0 0, .slice D0 1 1] TG))
  obtain ⟨tb, htb⟩ : ∃ g, g = w1.heap.size := ⟨_, rfl⟩
  have hbt : Below w1.heap.size w1 wt := by rw [hwt]; exact (Below.refl _ _).alloc (Nat.le_refl _) _
  have KT : Hid (Blk wt tb TG #[.string lotto, .int .i64 1, .int .i64 200, .int .i64 2, .int .i64 6, .int .i64 0, .int .i64 0, .int .i64 0, .int .i64 4, .int .i64 4, .int .i64 32, .int .i64 1230, .int .i64 30, .int .i64 15, .int .i64 90, .int .i64 5000, .int .i64 0, .int .i64 1, .int .i64 0, .int .i64 0, .slice none 0 0, .slice D0 1 1]) := by rw [hwt, htb]; exact Lib.hid (Blk.new w1 TG _)
  rw [← hwt, show (Value.pointer (some ⟨w1.heap.size, 0, none⟩)) = .pointer (some ⟨tb, 0, none⟩) by rw [htb]]
  have HT := Lib.hid (show zb < tb ∧ sb < tb ∧ w.heap.size ≤ tb ∧ w.heap.size ≤ zb by have h1 := Kz.out.lt; have h2 := Ks.out.lt; have h3 := HB.out.size; have h4 := Sz.out; omega)
  replace HB := Lib.hid (Below.on HB.out hbt)
  replace Ks := Lib.hid (Ks.out.keep hbt)
  replace Kz := Lib.hid (Kz.out.keep hbt)
  clear hwt htb hbt HGN HLO Ss Sz
  have p0 : wt.cell? ⟨sb, 0, none⟩ = some (.int .u8 (s0 : Int)) := Ks.out.cell 0
  have p1 : wt.cell? ⟨sb, 1, none⟩ = some (.int .u8 (s1 : Int)) := Ks.out.cell 1
  have p2 : wt.cell? ⟨sb, 2, none⟩ = some (.int .u8 (s2 : Int)) := Ks.out.cell 2
  have p3 : wt.cell? ⟨sb, 3, none⟩ = some (.int .u8 (s3 : Int)) := Ks.out.cell 3
  have p4 : wt.cell? ⟨sb, 4, none⟩ = some (.int .u8 (s4 : Int)) := Ks.out.cell 4
  have t3 : wt.cell? ⟨tb, 3, none⟩ = some (.int .i64 2) := KT.out.cell 3
  have t4 : wt.cell? ⟨tb, 4, none⟩ = some (.int .i64 6) := KT.out.cell 4
  have t5 : wt.cell? ⟨tb, 5, none⟩ = some (.int .i64 0) := KT.out.cell 5
  have t6 : wt.cell? ⟨tb, 6, none⟩ = some (.int .i64 0) := KT.out.cell 6
  have t7 : wt.cell? ⟨tb, 7, none⟩ = some (.int .i64 0) := KT.out.cell 7
  have t9 : wt.cell? ⟨tb, 9, none⟩ = some (.int .i64 4) := KT.out.cell 9
  have t21 : wt.cell? ⟨tb, 21, none⟩ = some (.slice D0 1 1) := KT.out.cell 21
  have f3 := KT.out.frozen 3
  have f4 := KT.out.frozen 4
  have f5 := KT.out.frozen 5
  have f6 := KT.out.frozen 6
  have f7 := KT.out.frozen 7
  have f9 := KT.out.frozen 9
  have f21 := KT.out.frozen 21
  have nst : ¬ sb = tb := by have := HT.out; omega
  have nts : ¬ tb = sb := by have := HT.out; omega
  go_upto_region 9 with (fail)
  have nz : zb ≠ tb := by have := HT.out; omega
  obtain ⟨wg, hwg⟩ : ∃ wg, wg = (((((((wt.setCell ⟨tb, 3, none⟩ (.int .i64 (m : Int))).setCell ⟨tb, 4, none⟩ (.int .i64 (n : Int))).setCell ⟨tb, 9, none⟩ (.int .i64 (m : Int))).setCell ⟨tb, 7, none⟩ (.int .i64 (x : Int))).setCell ⟨tb, 5, none⟩ (.int .i64 (b : Int))).setCell ⟨tb, 6, none⟩ (.int .i64 (c : Int))).setCell ⟨tb, 21, none⟩ (.slice none 0 0)) := ⟨_, rfl⟩
  change Code.wp _ _ _ _ (((((((wt.setCell ⟨tb, 3, none⟩ (.int .i64 (m : Int))).setCell ⟨tb, 4, none⟩ (.int .i64 (n : Int))).setCell ⟨tb, 9, none⟩ (.int .i64 (m : Int))).setCell ⟨tb, 7, none⟩ (.int .i64 (x : Int))).setCell ⟨tb, 5, none⟩ (.int .i64 (b : Int))).setCell ⟨tb, 6, none⟩ (.int .i64 (c : Int))).setCell ⟨tb, 21, none⟩ (.slice none 0 0))
  rw [← hwg]
  have KT2 : Hid (Blk wg tb TG #[.string lotto, .int .i64 1, .int .i64 200, .int .i64 (m : Int), .int .i64 (n : Int), .int .i64 (b : Int), .int .i64 (c : Int), .int .i64 (x : Int), .int .i64 4, .int .i64 (m : Int), .int .i64 32, .int .i64 1230, .int .i64 30, .int .i64 15, .int .i64 90, .int .i64 5000, .int .i64 0, .int .i64 1, .int .i64 0, .int .i64 0, .slice none 0 0, .slice none 0 0]) := by rw [hwg]; exact Lib.hid (((((((KT.out.set_ 3 (.int .i64 (m : Int))).set_ 4 (.int .i64 (n : Int))).set_ 9 (.int .i64 (m : Int))).set_ 7 (.int .i64 (x : Int))).set_ 5 (.int .i64 (b : Int))).set_ 6 (.int .i64 (c : Int))).set_ 21 (.slice none 0 0))
  have HB2 : Hid (Below w.heap.size w wg) := by rw [hwg]; exact Lib.hid (((((((HB.out.setCell (p := ⟨tb, 3, none⟩) HT.out.2.2.1 (.int .i64 (m : Int))).setCell (p := ⟨tb, 4, none⟩) HT.out.2.2.1 (.int .i64 (n : Int))).setCell (p := ⟨tb, 9, none⟩) HT.out.2.2.1 (.int .i64 (m : Int))).setCell (p := ⟨tb, 7, none⟩) HT.out.2.2.1 (.int .i64 (x : Int))).setCell (p := ⟨tb, 5, none⟩) HT.out.2.2.1 (.int .i64 (b : Int))).setCell (p := ⟨tb, 6, none⟩) HT.out.2.2.1 (.int .i64 (c : Int))).setCell (p := ⟨tb, 21, none⟩) HT.out.2.2.1 (.slice none 0 0))
  have KZ2 : Hid (Blk wg zb TG #[.string ⟨#[]⟩, .int .i64 0, .int .i64 0, .int .i64 0, .int .i64 0, .int .i64 0, .int .i64 0, .int .i64 0, .int .i64 0, .int .i64 0, .int .i64 0, .int .i64 0, .int .i64 0, .int .i64 0, .int .i64 0, .int .i64 0, .int .i64 0, .int .i64 0, .int .i64 0, .int .i64 0, .slice none 0 0, .slice none 0 0]) := by rw [hwg]; exact Lib.hid (((((((Kz.out.other nz (i := 3) (.int .i64 (m : Int))).other nz (i := 4) (.int .i64 (n : Int))).other nz (i := 9) (.int .i64 (m : Int))).other nz (i := 7) (.int .i64 (x : Int))).other nz (i := 5) (.int .i64 (b : Int))).other nz (i := 6) (.int .i64 (c : Int))).other nz (i := 21) (.slice none 0 0))
  have HO2 : Hid (wg.ownsRow (tb + 1) TT 6 (.slice none 0 0) (cntf m b 0 0) (row (cntf m b 0 0 * 6) (Six (tP m b) (tQ b)))) := by
    have : cntf m b 0 0 = 0 := by unfold cntf; omega
    rw [this]
    exact Lib.hid (World.ownsRow_nil _ _ _ _)
  clear hwg KT HB Kz Ks p0 p1 p2 p3 p4 t3 t4 t5 t6 t7 t9 t21 f3 f4 f5 f6 f7 f9 f21 nst nts r0 r1 r2 r3 r4 c0 c1 c2 c3 c4 d0 d1 d2 d4 d5
  have t3 : wg.cell? ⟨tb, 3, none⟩ = some (.int .i64 (m : Int)) := KT2.out.cell 3
  go_wp2
  clear t3
  go_loopw [4] (fun s4 wr => ∃ (i : Nat) (mi : Int) (v : Value), i ≤ m + 1 ∧ s4 = .int .i64 mi ∧ Hid (mi = (m : Int) - (i : Int)) ∧ Hid (Blk wr tb TG #[.string lotto, .int .i64 1, .int .i64 200, .int .i64 (m : Int), .int .i64 (n : Int), .int .i64 (b : Int), .int .i64 (c : Int), .int .i64 (x : Int), .int .i64 4, .int .i64 (m : Int), .int .i64 32, .int .i64 1230, .int .i64 30, .int .i64 15, .int .i64 90, .int .i64 5000, .int .i64 0, .int .i64 1, .int .i64 0, .int .i64 0, .slice none 0 0, v]) ∧ Hid (wr.ownsRow (tb + 1) TT 6 v (cntf m b i 0) (row (cntf m b i 0 * 6) (Six (tP m b) (tQ b)))) ∧ Hid (Below w.heap.size w wr) ∧ Hid (Blk wr zb TG #[.string ⟨#[]⟩, .int .i64 0, .int .i64 0, .int .i64 0, .int .i64 0, .int .i64 0, .int .i64 0, .int .i64 0, .int .i64 0, .int .i64 0, .int .i64 0, .int .i64 0, .int .i64 0, .int .i64 0, .int .i64 0, .int .i64 0, .int .i64 0, .int .i64 0, .int .i64 0, .int .i64 0, .slice none 0 0, .slice none 0 0])) (fun i _ => (intOf i + 1).toNat)
  case atStart => exact ⟨0, (m : Int), _, Nat.zero_le _, rfl, Lib.hid (by omega), KT2, HO2, HB2, KZ2⟩
  case round =>
    clear KT2 HO2 HB2 KZ2
    obtain ⟨i, mi, v, hi2, rfl, HMI, KT, HO, HB, KZ⟩ := hrel
    rename World => wr
    by_cases him : i ≤ m
    · obtain ⟨p, hp⟩ : ∃ p, p = m - i := ⟨_, rfl⟩
      obtain rfl : mi = (p : Int) := by rw [HMI.out]; omega
      have hp3 : p ≤ 3 := by omega
      have HIM := Lib.hid him
      have HP := Lib.hid hp
      obtain ⟨mn, hmn⟩ : ∃ z, z = (p : Int) - 1 := ⟨_, rfl⟩
      have ym : IntKind.i64.wrap ((p : Int) - 1) = mn := by rw [IntWalk.i64_in _ (by omega)]; exact hmn.symm
      have HMN := Lib.hid hmn
      have t5 : wr.cell? ⟨tb, 5, none⟩ = some (.int .i64 (b : Int)) := KT.out.cell 5
      clear hmn hp
      go_wp2
      clear t5
      go_loopw [5] (fun s5 wr => ∃ (j : Nat) (bi : Int) (v : Value), j ≤ b + 1 ∧ s5 = .int .i64 bi ∧ Hid (bi = (b : Int) - (j : Int)) ∧ Hid (Blk wr tb TG #[.string lotto, .int .i64 1, .int .i64 200, .int .i64 (m : Int), .int .i64 (n : Int), .int .i64 (b : Int), .int .i64 (c : Int), .int .i64 (x : Int), .int .i64 4, .int .i64 (m : Int), .int .i64 32, .int .i64 1230, .int .i64 30, .int .i64 15, .int .i64 90, .int .i64 5000, .int .i64 0, .int .i64 1, .int .i64 0, .int .i64 0, .slice none 0 0, v]) ∧ Hid (wr.ownsRow (tb + 1) TT 6 v (cntf m b i j) (row (cntf m b i j * 6) (Six (tP m b) (tQ b)))) ∧ Hid (Below w.heap.size w wr) ∧ Hid (Blk wr zb TG #[.string ⟨#[]⟩, .int .i64 0, .int .i64 0, .int .i64 0, .int .i64 0, .int .i64 0, .int .i64 0, .int .i64 0, .int .i64 0, .int .i64 0, .int .i64 0, .int .i64 0, .int .i64 0, .int .i64 0, .int .i64 0, .int .i64 0, .int .i64 0, .int .i64 0, .int .i64 0, .int .i64 0, .slice none 0 0, .slice none 0 0])) (fun i _ => (intOf i + 1).toNat)
      case atStart => exact ⟨0, (b : Int), _, Nat.zero_le _, rfl, Lib.hid (by omega), KT, HO, HB, KZ⟩
      case round =>
        clear KT HO HB KZ
        obtain ⟨j, bi, v, hj2, rfl, HBI, KT, HO, HB, KZ⟩ := hrel
        rename World => wr
        obtain ⟨sA, sc, rfl, _⟩ := own_slice HO.out
        by_cases hjb : j ≤ b
        · obtain ⟨q, hq⟩ : ∃ q, q = b - j := ⟨_, rfl⟩
          obtain rfl : bi = (q : Int) := by rw [HBI.out]; omega
          have hq1 : q ≤ 1 := by omega
          have HJB := Lib.hid hjb
          obtain ⟨bn, hbn⟩ : ∃ z, z = (q : Int) - 1 := ⟨_, rfl⟩
          have yb : IntKind.i64.wrap ((q : Int) - 1) = bn := by rw [IntWalk.i64_in _ (by omega)]; exact hbn.symm
          have HBN := Lib.hid (show bn = (b : Int) - ((j + 1 : Nat) : Int) by rw [hbn, hq]; omega)
          have HMS := Lib.hid (show (bn + 1).toNat < ((q : Int) + 1).toNat by omega)
          obtain ⟨pq, hpq⟩ : ∃ z, z = p + q := ⟨_, rfl⟩
          have ys : IntKind.i64.wrap ((p : Int) + (q : Int)) = (pq : Int) := by rw [IntWalk.i64_in _ (by omega)]; omega
          by_cases h0 : 0 < pq
          · have g0 : (0 : Int) < (pq : Int) := by omega
            have hca := cnt_at him hjb (show i < m ∨ j < b by have := HP.out; omega)
            have hpa := tP_at (m := m) (b := b) (i := i) hjb
            rw [← hca.1, ← hq, ← HP.out] at hpa
            obtain ⟨cn, hcn⟩ : ∃ z, z = cntf m b i j := ⟨_, rfl⟩
            have hc7 : cn ≤ 7 := by rw [hcn]; exact cnt_le lm lb i j
            rw [← hcn] at hca hpa HO KT
            have HR : Hid (row (cntf m b i (j + 1) * 6) (Six (tP m b) (tQ b)) = row (cn * 6) (Six (tP m b) (tQ b)) ++ [.int .i64 (p : Int), .int .i64 (q : Int), .int .i64 0, .int .i64 0, .int .i64 1, .int .i64 10]) := Lib.hid (by rw [hca.2, six_row, hpa.1, hpa.2])
            have HCN := Lib.hid hca.2
            have t21 : wr.cell? ⟨tb, 21, none⟩ = some (.slice sA cn sc) := KT.out.cell 21
            have HSZ := Lib.hid (show tb + 1 ≤ wr.heap.size from KT.out.lt)
            clear hca hpa hcn h0 hpq hbn hq
            go_wp2_with (at_builtin; refine wpList_append_own _ rfl _ _ 25 rfl (tb + 1) TT i0 (.agg #[.int .i64 0, .int .i64 0, .int .i64 0, .int .i64 0, .int .i64 0, .int .i64 0]) 6 48 Tryz.underlying25 hi hz0 hz1 hz2 rfl (by decide) _ _ _ rfl (HO.out.alloc _) ⟨wr.heap.size, 0, none⟩ 1 1 [.int .i64 (p : Int), .int .i64 (q : Int), .int .i64 0, .int .i64 0, .int .i64 1, .int .i64 10] rfl rfl ?c1 ?c2 ?c3 ?c4 ?c5 ?_)
            case c1 => exact fun j u hu => new_cell rfl (by simpa using hu)
            case c2 => intro u hu; simp at hu; rcases hu with rfl | rfl | rfl | rfl | rfl | rfl <;> rfl
            case c3 => unfold maxLen; omega
            case c4 => omega
            case c5 => have := HSZ.out; first | omega | (simp; omega)
            intro v' w3 hown' hgrow _
            obtain ⟨sA', sc', rfl, _⟩ := own_slice hown'
            have KT3 := Lib.hid ((KT.out.alloc _).grown hgrow fun e => by have := (HO.out.lt tb e.symm).1; omega)
            have KZ3 := Lib.hid ((KZ.out.alloc _).grown hgrow fun e => by have := (HO.out.lt zb e.symm).1; have := HT.out; omega)
            have HB3 := Lib.hid ((HB.out.alloc HB.out.size _).grown hgrow (HB.out.alloc HB.out.size _).size fun k hk => by have := (HO.out.lt k hk).1; have := HT.out; omega)
            have HO3 : Hid ((w3.setCell ⟨tb, 21, none⟩ (.slice sA' (cn + 1) sc')).ownsRow (tb + 1) TT 6  (.slice sA' (cn + 1) sc') (cntf m b i (j + 1)) (row (cntf m b i (j + 1) * 6) (Six (tP m b) (tQ b)))) := by
              rw [HR.out, HCN.out]
              exact Lib.hid (ownsRow_setCell_below hown' (a := ⟨tb, 21, none⟩) (Nat.lt_succ_self tb) _)
            have t21' : w3.cell? ⟨tb, 21, none⟩ = some (.slice sA cn sc) := KT3.out.cell 21
            have f21 := KT3.out.frozen 21
            clear hown' hgrow t21 KT HO HB KZ HR HCN
            go_wp2
            go_roundw
            case rel => exact ⟨j + 1, bn, _, Nat.succ_le_succ HJB.out, rfl, HBN, Lib.hid (KT3.out.set_ 21 (.slice sA' (cn + 1) sc')), HO3, Lib.hid (HB3.out.setCell (p := ⟨tb, 21, none⟩) HT.out.2.2.1 _), Lib.hid (KZ3.out.other nz (i := 21) _)⟩
            case measure => have := HMS.out; simp [intOf] <;> omega
          · obtain rfl : pq = 0 := by omega
            have ys0 : IntKind.i64.wrap ((p : Int) + (q : Int)) = 0 := ys
            clear ys
            have HO4 : Hid (wr.ownsRow (tb + 1) TT 6 (.slice sA (cntf m b i j) sc) (cntf m b i (j + 1)) (row (cntf m b i (j + 1) * 6) (Six (tP m b) (tQ b)))) := by
              have h1 : i = m := by have := HP.out; omega
              have h2 : j = b := by omega
              rw [h1, h2, cnt_stop]
              rw [h1, h2] at HO
              exact HO
            have hc7 := cnt_le lm lb i j
            clear h0 hpq hbn hq
            go_wp2
            go_roundw
            case rel => exact ⟨j + 1, bn, _, Nat.succ_le_succ HJB.out, rfl, HBN, KT, HO4, HB, KZ⟩
            case measure => have := HMS.out; simp [intOf] <;> omega
        · obtain rfl : j = b + 1 := by omega
          obtain rfl : bi = -1 := by rw [HBI.out]; omega
          have HO4 : Hid (wr.ownsRow (tb + 1) TT 6 (.slice sA (cntf m b i (b + 1)) sc) (cntf m b (i + 1) 0) (row (cntf m b (i + 1) 0 * 6) (Six (tP m b) (tQ b)))) := by
            rw [← cnt_next]
            exact HO
          have HMI2 := Lib.hid (show mn = (m : Int) - ((i + 1 : Nat) : Int) by rw [HMN.out, HP.out]; have := HIM.out; omega)
          have HMS := Lib.hid (show (mn + 1).toNat < ((p : Int) + 1).toNat by rw [HMN.out]; omega)
          go_wp2
          go_roundw
          case rel => exact ⟨i + 1, mn, _, Nat.succ_le_succ HIM.out, rfl, HMI2, KT, HO4, HB, KZ⟩
          case measure => have := HMS.out; simp [intOf] <;> omega
    · obtain rfl : mi = -1 := by rw [HMI.out]; omega
      obtain rfl : i = m + 1 := by omega
      rw [cnt_end] at HO
      obtain ⟨D, k, rfl, hk⟩ := own_slice HO.out
      have HC := Lib.hid (Cells.of_own HO.out)
      have HKK := Lib.hid hk
      have HG := Lib.hid (setRow_heap wr zb _ #[.string lotto, .int .i64 1, .int .i64 200, .int .i64 (m : Int), .int .i64 (n : Int), .int .i64 (b : Int), .int .i64 (c : Int), .int .i64 (x : Int), .int .i64 4, .int .i64 (m : Int), .int .i64 32, .int .i64 1230, .int .i64 30, .int .i64 15, .int .i64 90, .int .i64 5000, .int .i64 0, .int .i64 1, .int .i64 0, .int .i64 0, .slice none 0 0, .slice D (nT m b) k] TG (0, 0) KZ.out)
      have HBE := Lib.hid (below_row HB.out HT.out.2.2.2 #[.string lotto, .int .i64 1, .int .i64 200, .int .i64 (m : Int), .int .i64 (n : Int), .int .i64 (b : Int), .int .i64 (c : Int), .int .i64 (x : Int), .int .i64 4, .int .i64 (m : Int), .int .i64 32, .int .i64 1230, .int .i64 30, .int .i64 15, .int .i64 90, .int .i64 5000, .int .i64 0, .int .i64 1, .int .i64 0, .int .i64 0, .slice none 0 0, .slice D (nT m b) k])
      have HCE : Hid (Cells (wr.setRow zb #[.string lotto, .int .i64 1, .int .i64 200, .int .i64 (m : Int), .int .i64 (n : Int), .int .i64 (b : Int), .int .i64 (c : Int), .int .i64 (x : Int), .int .i64 4, .int .i64 (m : Int), .int .i64 32, .int .i64 1230, .int .i64 30, .int .i64 15, .int .i64 90, .int .i64 5000, .int .i64 0, .int .i64 1, .int .i64 0, .int .i64 0, .slice none 0 0, .slice D (nT m b) k]) D (nT m b * 6) (Six (tP m b) (tQ b))) := Lib.hid (fun h0 => by
        obtain ⟨b0, off, e, hlt, hcc⟩ := HC.out h0
        refine ⟨b0, off, e, by rw [size_setRow]; exact hlt, fun j hj => ?_⟩
        rw [cell_setRow_other]
        · exact hcc j hj
        · have h1 := (HO.out.lt b0 (by rw [e]; rfl)).1
          have h2 := HT.out
          show b0 ≠ zb
          omega)
      clear hk HC HO HB
      go_wp2_with (first | (refine wpList_load_row rfl TG _ rfl tb rfl TG _ (0, 0) _ KT.out Tryz.underlying27 rfl (by kernel_rfl) ?_) | (refine wpList_store_row rfl TG _ _ rfl zb #[.string lotto, .int .i64 1, .int .i64 200, .int .i64 (m : Int), .int .i64 (n : Int), .int .i64 (b : Int), .int .i64 (c : Int), .int .i64 (x : Int), .int .i64 4, .int .i64 (m : Int), .int .i64 32, .int .i64 1230, .int .i64 30, .int .i64 15, .int .i64 90, .int .i64 5000, .int .i64 0, .int .i64 1, .int .i64 0, .int .i64 0, .slice none 0 0, .slice D (nT m b) k] rfl rfl TG #[.string ⟨#[]⟩, .int .i64 0, .int .i64 0, .int .i64 0, .int .i64 0, .int .i64 0, .int .i64 0, .int .i64 0, .int .i64 0, .int .i64 0, .int .i64 0, .int .i64 0, .int .i64 0, .int .i64 0, .int .i64 0, .int .i64 0, .int .i64 0, .int .i64 0, .int .i64 0, .int .i64 0, .slice none 0 0, .slice none 0 0] KZ.out (by kernel_rfl) rfl (by kernel_rfl) ?_))
      refine bodyPost_ret (v := .agg #[.string lotto, .int .i64 1, .int .i64 200, .int .i64 (m : Int), .int .i64 (n : Int), .int .i64 (b : Int), .int .i64 (c : Int), .int .i64 (x : Int), .int .i64 4, .int .i64 (m : Int), .int .i64 32, .int .i64 1230, .int .i64 30, .int .i64 15, .int .i64 90, .int .i64 5000, .int .i64 0, .int .i64 1, .int .i64 0, .int .i64 0, .slice none 0 0, .slice D (nT m b) k]) (results_cell_row rfl _ _ zb TG #[.string lotto, .int .i64 1, .int .i64 200, .int .i64 (m : Int), .int .i64 (n : Int), .int .i64 (b : Int), .int .i64 (c : Int), .int .i64 (x : Int), .int .i64 4, .int .i64 (m : Int), .int .i64 32, .int .i64 1230, .int .i64 30, .int .i64 15, .int .i64 90, .int .i64 5000, .int .i64 0, .int .i64 1, .int .i64 0, .int .i64 0, .slice none 0 0, .slice D (nT m b) k] (0, 0) _ rfl HG.out Tryz.underlying27 rfl (by kernel_rfl)) rfl ?_
      exact ⟨⟨D, k, rfl, HCE.out, HKK.out⟩, HBE.out⟩

end Tp
end Go.Proofs.YtdcmpnjhomhhiaaGreat
