/- Several texts in one. -/
import Derived.Test.YtiflmnmkmpjecaaFaRuns
import Derived.Test.YtiflmnmkmpjecaaG4
/- The walks of fairness.chooseChance and HitsChance. -/
set_option linter.unusedVariables false
namespace Go.Proofs.Ytiflmnmkmpjecaa
open Go.RowKit
namespace Fa
open Fr
abbrev TG : TypeId := 50
/-- A game of which three fields are set. -/
def gc (k m o : Int) : Array Value := #[.string ⟨#[]⟩, .int .i64 k, .int .i64 0, .int .i64 m, .int .i64 o, .int .i64 0, .int .i64 0, .int .i64 0, .int .i64 0, .int .i64 0, .int .i64 0, .int .i64 0, .int .i64 0, .int .i64 0, .int .i64 0, .int .i64 0, .int .i64 0, .int .i64 0, .int .i64 0, .int .i64 0, .slice none 0 0, .slice none 0 0]
theorem boxesG (w : World) (cs : Array Value) : Bs w ((w.alloc (.cells cs TG)).alloc (.cells #[.slice none 0 0, .slice none 0 0] TF)) [(w.heap.size + 1, TF, #[.slice none 0 0, .slice none 0 0]), (w.heap.size, TG, cs)] := by
  have := ((Bs.nil w).alloc TG cs).alloc TF #[.slice none 0 0, .slice none 0 0]
  simp only [World.size_alloc] at this
  exact this
/-- The numerator of the chance of hits in a choose game. -/
def hc (m o : Nat) (h : Int) : Nat := cz m h * cz (o - m) ((m : Int) - h)
theorem hc_len {m o : Nat} (hm : m ≤ 80) (ho : o ≤ 80) (h : Int) : L32 (hc m o h) ≤ 34 := prod_len (cz_len hm h) (cz_len (by omega) _)
set_option maxHeartbeats 4000000 in
set_option maxRecDepth 100000 in
theorem chch_any (w : World) {m o x y : Nat} {k h : Int} (hm : m ≤ o) (ho : o ≤ 80) (hh0 : 0 ≤ h) (hh : h ≤ m) (hx : x = hc m o h) (hy : y = cb o m) :
    Calls Try.prog 64 #[.agg (gc k m o), .int .i64 h] w fun e w' => Res w.heap.size w' e (x / Nat.gcd x y) (y / Nat.gcd x y) ∧ Below w.heap.size w w' := by
  have BS0 := Lib.hid (boxesG w (gc k m o))
  have hw1 : IntKind.i64.wrap ((o : Int) - (m : Int)) = ((o - m : Nat) : Int) := by rw [IntWalk.i64_in _ (by omega)]; omega
  obtain ⟨q, hq⟩ : ∃ q, q = (m : Int) - h := ⟨_, rfl⟩
  have hw2 : IntKind.i64.wrap ((m : Int) - h) = q := by rw [IntWalk.i64_in _ (by omega), hq]
  have K1 := fun w' => choices_any w' (n := m) (m := o - m) (by omega) (by omega) h q
  have K2 := fun w' => choose_any w' (n := o) ho (m : Int)
  rw [show cz m h * cz (o - m) q = x by rw [hx, hq]; rfl] at K1
  rw [show cz o (m : Int) = y by unfold cz; rw [if_pos (by omega), hy]; rfl] at K2
  have HX := Lib.hid (show L32 x ≤ 64 by rw [hx]; exact Nat.le_trans (hc_len (by omega) ho h) (by omega))
  have HY := Lib.hid (show L32 y ≤ 64 by rw [hy]; exact Nat.le_trans (cb_len ho hm) (by omega))
  have HY0 := Lib.hid (show 0 < y by rw [hy]; exact cb_pos hm)
  obtain ⟨om, hom⟩ : ∃ q, q = o - m := ⟨_, rfl⟩
  rw [← hom] at hw1 K1
  have HK1 := Lib.hid K1
  have HK2 := Lib.hid K2
  obtain ⟨qa, hqa⟩ : ∃ v, v = x / Nat.gcd x y := ⟨_, rfl⟩
  obtain ⟨qb, hqb⟩ : ∃ v, v = y / Nat.gcd x y := ⟨_, rfl⟩
  rw [← hqa, ← hqb]
  have HQA := Lib.hid hqa
  have HQB := Lib.hid hqb
  clear K1 K2 hx hy hqa hqb hq hom hh hh0
  unfold gc at BS0 ⊢
  go_enter Try.func64, Try.ntmps64
  go_wp2_with fail
  (with_reducible refine (HK1.out _).mono ?_)
  rintro e w1 ⟨⟨D1, l1', c1, rfl, hl, hc, hf⟩, hb⟩
  have BQ := Lib.hid (BS0.out.on hb)
  have BS1 := Lib.hid (BQ.out.alloc TN #[.slice D1 l1' c1])
  have C1 := Lib.hid (hc.alloc (.cells #[.slice D1 l1' c1] TN))
  have L1 := Lib.hid hl
  clear hb hc hl hf BS0
  obtain ⟨_, lg, kg⟩ := BQ.out.get (.tail _ (.head _))
  have g3 : w1.cell? ⟨w.heap.size, 3, none⟩ = some (.int .i64 (m : Int)) := kg.cell 3
  have g4 : w1.cell? ⟨w.heap.size, 4, none⟩ = some (.int .i64 (o : Int)) := kg.cell 4
  clear kg
  go_wp2_with fail
  (with_reducible refine (HK2.out _).mono ?_)
  rintro e w2 ⟨⟨D2, l2', c2, rfl, hl, hc, hf⟩, hb⟩
  have BQ2 := Lib.hid (BS1.out.on hb)
  have BS2 := Lib.hid (BQ2.out.alloc TN #[.slice D2 l2' c2])
  have C1b := Lib.hid ((C1.out.below hb).alloc (.cells #[.slice D2 l2' c2] TN))
  have C2 := Lib.hid (hc.alloc (.cells #[.slice D2 l2' c2] TN))
  have L2 := Lib.hid hl
  clear hb hc hl hf BS1 g3 g4 lg BQ C1
  obtain ⟨_, lb, kb⟩ := BQ2.out.get (.head _)
  have q1 : w2.cell? ⟨w1.heap.size, 0, none⟩ = some (.slice D1 l1' c1) := kb.cell 0
  clear kb
  have ha64 : l1' ≤ 64 := by rw [L1.out]; exact HX.out
  have hb64 : l2' ≤ 64 := by rw [L2.out]; exact HY.out
  go_wp2_with fail
  refine (make_any (x := x) (y := y) ha64 hb64 L1.out L2.out C1b.out C2.out HY0.out).mono ?_
  rintro e w5 ⟨⟨Da', ca', Db', cb', rfl, hla, hlb, hca, hcb, hfa, hfb⟩, hb5⟩
  rw [← HQA.out] at hla hca ⊢
  rw [← HQB.out] at hlb hcb ⊢
  have HZ6 := Lib.hid (BS2.out.get (.tail _ (.tail _ (.head _)))).2.1
  have HW6 := Lib.hid BS2.out.below.size
  have BS5 := Lib.hid (BS2.out.on hb5)
  clear hb5 q1 lb BQ2 BS2
  obtain ⟨z, hz⟩ : ∃ z, z = w.heap.size + 1 := ⟨_, rfl⟩
  have hzw : w.heap.size ≤ z := by omega
  obtain ⟨_, lz, kz⟩ := BS5.out.get (.tail _ (.tail _ (.head _)))
  rw [← hz] at kz lz HZ6 ⊢
  have s0 : w5.cell? ⟨z, 0, none⟩ = some (.slice none 0 0) := kz.cell 0
  have s1 : w5.cell? ⟨z, 1, none⟩ = some (.slice none 0 0) := kz.cell 1
  have f0 : w5.frozen? ⟨z, 0, none⟩ = false := kz.frozen 0
  have f1 : w5.frozen? ⟨z, 1, none⟩ = false := kz.frozen 1
  have HB7 := Lib.hid BS5.out.below
  clear kz hz
  obtain ⟨l1, hl1⟩ : ∃ l, l = L32 (qa) := ⟨_, rfl⟩
  obtain ⟨l2, hl2⟩ : ∃ l, l = L32 (qb) := ⟨_, rfl⟩
  rw [← hl1] at hla hca ⊢
  rw [← hl2] at hlb hcb ⊢
  have HL1 := Lib.hid hl1
  have HL2 := Lib.hid hl2
  have HCA := Lib.hid hca
  have HCB := Lib.hid hcb
  have HFA := Lib.hid hfa
  have HFB := Lib.hid hfb
  clear hl1 hl2 hca hcb hfa hfb
  unfold fv
  go_wp2
  refine bodyPost_ret (v := .tuple #[fv Da' l1 ca' Db' l2 cb', .int .i64 0]) (by unfold fv; simp [results, Try.results64, go_sem, s0, s1]) rfl ?_
  refine ⟨⟨Da', ca', Db', cb', by rw [← HL1.out, ← HL2.out], by rw [← HL1.out]; exact hla, by rw [← HL2.out]; exact hlb, ?_, ?_, HFA.out.mono HW6.out, HFB.out.mono HW6.out⟩, ?_⟩
  · rw [← HL1.out]
    exact (HCA.out.set_ HFA.out HZ6.out _ _).set_ HFA.out HZ6.out _ _
  · rw [← HL2.out]
    exact (HCB.out.set_ HFB.out HZ6.out _ _).set_ HFB.out HZ6.out _ _
  · exact bse (bse HB7.out hzw _ _) hzw _ _
set_option maxHeartbeats 4000000 in
set_option maxRecDepth 100000 in
theorem hits_choose (w : World) {m o x y : Nat} {h : Int} (hm : m ≤ o) (ho : o ≤ 80) (hh0 : 0 ≤ h) (hh : h ≤ m) (hx : x = hc m o h) (hy : y = cb o m) :
    Calls Try.prog 26 #[.agg (gc 1 m o), .int .i64 h] w fun e w' => Res w.heap.size w' e (x / Nat.gcd x y) (y / Nat.gcd x y) ∧ Below w.heap.size w w' := by
  have BS0 := Lib.hid (boxesG w (gc 1 m o))
  have K := fun w' => chch_any w' (k := 1) hm ho hh0 hh hx hy
  obtain ⟨qa, hqa⟩ : ∃ v, v = x / Nat.gcd x y := ⟨_, rfl⟩
  obtain ⟨qb, hqb⟩ : ∃ v, v = y / Nat.gcd x y := ⟨_, rfl⟩
  rw [← hqa, ← hqb] at K ⊢
  clear hx hy hqa hqb
  unfold gc at BS0 K ⊢
  have HK := Lib.hid K
  clear K
  go_enter Try.func26, Try.ntmps26
  go_upto_region 1 with (fail)
  obtain ⟨wa, hwa⟩ : ∃ wa, wa = (w.alloc (.cells #[.string ⟨#[]⟩, .int .i64 1, .int .i64 0, .int .i64 (m : Int), .int .i64 (o : Int), .int .i64 0, .int .i64 0, .int .i64 0, .int .i64 0, .int .i64 0, .int .i64 0, .int .i64 0, .int .i64 0, .int .i64 0, .int .i64 0, .int .i64 0, .int .i64 0, .int .i64 0, .int .i64 0, .int .i64 0, .slice none 0 0, .slice none 0 0] TG)).alloc (.cells #[.slice none 0 0, .slice none 0 0] TF) := ⟨_, rfl⟩
  change Code.wp _ _ _ _ ((w.alloc (.cells #[.string ⟨#[]⟩, .int .i64 1, .int .i64 0, .int .i64 (m : Int), .int .i64 (o : Int), .int .i64 0, .int .i64 0, .int .i64 0, .int .i64 0, .int .i64 0, .int .i64 0, .int .i64 0, .int .i64 0, .int .i64 0, .int .i64 0, .int .i64 0, .int .i64 0, .int .i64 0, .int .i64 0, .int .i64 0, .slice none 0 0, .slice none 0 0] TG)).alloc (.cells #[.slice none 0 0, .slice none 0 0] TF))
  rw [← hwa] at BS0 ⊢
  obtain ⟨gb, hgb⟩ : ∃ b, b = w.heap.size := ⟨_, rfl⟩
  have bs0 := BS0.out
  rw [← hgb] at bs0
  rw [show (Value.pointer (some ⟨w.heap.size, 0, none⟩)) = .pointer (some ⟨gb, 0, none⟩) by rw [hgb]]
  clear hwa
  obtain ⟨_, lg, kg⟩ := bs0.get (.tail _ (.head _))
  have q1 : wa.cell? ⟨gb, 1, none⟩ = some (.int .i64 1) := kg.cell 1
  have q3 : wa.cell? ⟨gb, 3, none⟩ = some (.int .i64 (m : Int)) := kg.cell 3
  have q4 : wa.cell? ⟨gb, 4, none⟩ = some (.int .i64 (o : Int)) := kg.cell 4
  have KG := Lib.hid (show wa.heap[gb]? = some (.cells #[.string ⟨#[]⟩, .int .i64 1, .int .i64 0, .int .i64 (m : Int), .int .i64 (o : Int), .int .i64 0, .int .i64 0, .int .i64 0, .int .i64 0, .int .i64 0, .int .i64 0, .int .i64 0, .int .i64 0, .int .i64 0, .int .i64 0, .int .i64 0, .int .i64 0, .int .i64 0, .int .i64 0, .int .i64 0, .slice none 0 0, .slice none 0 0] TG (0, 0)) from kg)
  clear kg bs0 hgb
  go_upto_region 12 with (fail)
  go_wp2_with (refine wpList_load_row rfl TG _ rfl gb rfl TG _ (0, 0) _ KG.out Try.underlying50 rfl (by kernel_rfl) ?_)
  (with_reducible refine (HK.out _).mono ?_)
  rintro e w5 ⟨⟨Da', ca', Db', cb', rfl, hla, hlb, hca, hcb, hfa, hfb⟩, hb5⟩
  have HZ6 := Lib.hid (BS0.out.get (.head _)).2.1
  have HW6 := Lib.hid BS0.out.below.size
  have BS5 := Lib.hid (BS0.out.on hb5)
  clear hb5 BS0
  obtain ⟨z, hz⟩ : ∃ z, z = w.heap.size + 1 := ⟨_, rfl⟩
  have hzw : w.heap.size ≤ z := by omega
  obtain ⟨_, lz, kz⟩ := BS5.out.get (.head _)
  rw [← hz] at kz lz HZ6 ⊢
  have s0 : w5.cell? ⟨z, 0, none⟩ = some (.slice none 0 0) := kz.cell 0
  have s1 : w5.cell? ⟨z, 1, none⟩ = some (.slice none 0 0) := kz.cell 1
  have f0 : w5.frozen? ⟨z, 0, none⟩ = false := kz.frozen 0
  have f1 : w5.frozen? ⟨z, 1, none⟩ = false := kz.frozen 1
  have HB7 := Lib.hid BS5.out.below
  clear kz hz
  obtain ⟨l1, hl1⟩ : ∃ l, l = L32 (qa) := ⟨_, rfl⟩
  obtain ⟨l2, hl2⟩ : ∃ l, l = L32 (qb) := ⟨_, rfl⟩
  rw [← hl1] at hla hca ⊢
  rw [← hl2] at hlb hcb ⊢
  have HL1 := Lib.hid hl1
  have HL2 := Lib.hid hl2
  have HCA := Lib.hid hca
  have HCB := Lib.hid hcb
  have HFA := Lib.hid hfa
  have HFB := Lib.hid hfb
  clear hl1 hl2 hca hcb hfa hfb
  unfold fv
  go_wp2
  refine bodyPost_ret (v := .tuple #[fv Da' l1 ca' Db' l2 cb', .int .i64 0]) (by unfold fv; simp [results, Try.results26, go_sem, s0, s1]) rfl ?_
  refine ⟨⟨Da', ca', Db', cb', by rw [← HL1.out, ← HL2.out], by rw [← HL1.out]; exact hla, by rw [← HL2.out]; exact hlb, ?_, ?_, HFA.out.mono HW6.out, HFB.out.mono HW6.out⟩, ?_⟩
  · rw [← HL1.out]
    exact (HCA.out.set_ HFA.out HZ6.out _ _).set_ HFA.out HZ6.out _ _
  · rw [← HL2.out]
    exact (HCB.out.set_ HFB.out HZ6.out _ _).set_ HFB.out HZ6.out _ _
  · exact bse (bse HB7.out hzw _ _) hzw _ _
end Fa
end Go.Proofs.Ytiflmnmkmpjecaa

/- The walks of fairness.digitChance and of HitsChance in the other cases. -/
set_option linter.unusedVariables false
namespace Go.Proofs.Ytiflmnmkmpjecaa
open Go.RowKit
namespace Fa
open Fr
theorem pow_small {a n k : Nat} (ha : a ≤ 10) (hn : n ≤ 10) (hk : 2 ≤ k) : L32 (a ^ n) ≤ k := by
  refine Nat.le_trans (fit32_le (n := 2) ?_) hk
  unfold Fit32
  exact Nat.lt_of_le_of_lt (Nat.le_trans (Nat.pow_le_pow_left ha n) (Nat.pow_le_pow_right (by omega) hn)) (by decide)
theorem lm_off {w : World} {g : Nat} {D E : Option Addr} {l a b : Nat} {f : Nat → Nat} (hb : Blk w g TN #[.slice E a b]) (hc : Cells w D l (Lm f)) (hl : 0 < l) : Apart g D := by
  obtain ⟨b, off, e, hlt, h⟩ := hc hl
  intro d hd
  rw [hd] at e
  injection e with e
  subst e
  intro e2
  have e3 : b = g := e2
  subst e3
  have h0 := h 0 hl
  rw [hb.cell] at h0
  cases off with
  | zero => simp [Lm] at h0
  | succ k => simp at h0
theorem small64 {a : Nat} (ha : a ≤ 10) : L32 a ≤ 64 := Nat.le_trans (fit32_le (N := a) (n := 1) (by unfold Fit32; omega)) (by omega)
set_option maxHeartbeats 8000000 in
set_option maxRecDepth 100000 in
theorem digit_any (w : World) {m o h d x y : Nat} {k : Int} (ho1 : 1 ≤ o) (ho : o ≤ 10) (hm : m ≤ 10) (hh : h ≤ m) (hd : d = m - h) (hx : x = cz m h * (o - 1) ^ d) (hy : y = o ^ m) :
    Calls Try.prog 65 #[.agg (gc k m o), .int .i64 (h : Int)] w fun e w' => Res w.heap.size w' e (x / Nat.gcd x y) (y / Nat.gcd x y) ∧ Below w.heap.size w w' := by
  have BS0 := Lib.hid (boxesG w (gc k m o))
  obtain ⟨p, hp⟩ : ∃ p, p = o - 1 := ⟨_, rfl⟩
  obtain ⟨ds, hds⟩ : ∃ p, p = d + 1 := ⟨_, rfl⟩
  obtain ⟨ms, hms⟩ : ∃ p, p = m + 1 := ⟨_, rfl⟩
  have Hds := Lib.hid hds
  have Hms := Lib.hid hms
  have hw1 : IntKind.i64.wrap ((o : Int) - 1) = (p : Int) := by rw [IntWalk.i64_in _ (by omega)]; omega
  have hw2 : IntKind.u64.wrap (p : Int) = (p : Int) := IntWalk.u64_in _ (by omega)
  have hw3 : IntKind.i64.wrap ((m : Int) - (h : Int)) = (d : Int) := by rw [IntWalk.i64_in _ (by omega)]; omega
  have hw4 : IntKind.u64.wrap (o : Int) = (o : Int) := IntWalk.u64_in _ (by omega)
  have hw5 : IntKind.i64.wrap ((ds : Int) - 1) = (d : Int) := by rw [IntWalk.i64_in _ (by omega)]; omega
  have hw6 : IntKind.i64.wrap ((ms : Int) - 1) = (m : Int) := by rw [IntWalk.i64_in _ (by omega)]; omega
  have i1 : (d : Int) < (ds : Int) := by omega
  have i2 : (m : Int) < (ms : Int) := by omega
  have i3 : (0 : Int) ≤ (d : Int) := by omega
  have i4 : (0 : Int) ≤ (m : Int) := by omega
  have K1 := fun w' => choose_any w' (n := m) (by omega) (h : Int)
  have HC17 := cz_len (n := m) (by omega) (h : Int)
  obtain ⟨C, hC⟩ : ∃ c, c = cz m h := ⟨_, rfl⟩
  rw [← hC] at hx K1 HC17
  rw [← hp] at hx
  have hd10 : d ≤ 10 := by omega
  have hp10 : p ≤ 10 := by omega
  have HP64 := Lib.hid (small64 hp10)
  have HO64 := Lib.hid (small64 ho)
  have HPD := Lib.hid (pow_small (k := 2) hp10 hd10 (by omega))
  have HOM := Lib.hid (pow_small (k := 2) ho hm (by omega))
  have HX34 := Lib.hid (show L32 x ≤ 34 by rw [hx]; exact Nat.le_trans (prod_len HC17 HPD.out) (by omega))
  have HY0 := Lib.hid (show 0 < y by rw [hy]; exact Nat.pow_pos (by omega))
  have HXE := Lib.hid hx
  have HYE := Lib.hid hy
  have HC1 := Lib.hid HC17
  have HK1 := Lib.hid K1
  have HOO := Lib.hid (show o ≤ 4294967295 by omega)
  have HPP := Lib.hid (show p ≤ 4294967295 by omega)
  have HM64 := Lib.hid (show m ≤ 64 by omega)
  have HD64 := Lib.hid (show d ≤ 64 by omega)
  obtain ⟨qa, hqa⟩ : ∃ v, v = x / Nat.gcd x y := ⟨_, rfl⟩
  obtain ⟨qb, hqb⟩ : ∃ v, v = y / Nat.gcd x y := ⟨_, rfl⟩
  rw [← hqa, ← hqb]
  have HQA := Lib.hid hqa
  have HQB := Lib.hid hqb
  clear K1 HC17 hx hy hqa hqb hC hp hd ho ho1 hm hh hd10 hp10 hds hms
  unfold gc at BS0 ⊢
  go_enter Try.func65, Try.ntmps65
  go_wp2_with fail
  (with_reducible refine (HK1.out _).mono ?_)
  rintro e w1 ⟨⟨D1, l1, c1, rfl, hl, hc, hf⟩, hb⟩
  have BQ := Lib.hid (BS0.out.on hb)
  have BS1 := Lib.hid (BQ.out.alloc TN #[.slice D1 l1 c1])
  have C1 := Lib.hid (hc.alloc (.cells #[.slice D1 l1 c1] TN))
  have L1 := Lib.hid hl
  obtain ⟨wa, hwa⟩ : ∃ wa, wa = w1.alloc (.cells #[.slice D1 l1 c1] TN) := ⟨_, rfl⟩
  obtain ⟨cb1, hcb1⟩ : ∃ b, b = w1.heap.size := ⟨_, rfl⟩
  obtain ⟨z, hz⟩ : ∃ b, b = w.heap.size + 1 := ⟨_, rfl⟩
  obtain ⟨gb, hgb⟩ : ∃ b, b = w.heap.size := ⟨_, rfl⟩
  have HZC : Hid (z < cb1) := Lib.hid (by have := (BQ.out.get (.head _)).2.1; omega)
  have HZW : Hid (w.heap.size ≤ z) := Lib.hid (by omega)
  have bs1 := BS1.out
  rw [← hwa, ← hcb1, ← hz, ← hgb] at bs1
  rw [← hwa] at C1
  have BSA := Lib.hid bs1
  clear hb hc hl hf BS0 BS1 bs1 BQ HK1
  go_upto_region 4 with (fail)
  change Code.wp _ _ _ _ (w1.alloc (.cells #[.slice D1 l1 c1] TN))
  rw [← hwa]
  rw [show (Value.pointer (some ⟨w1.heap.size, 0, none⟩)) = .pointer (some ⟨cb1, 0, none⟩) by rw [hcb1], show (Value.pointer (some ⟨w.heap.size + 1, 0, none⟩)) = .pointer (some ⟨z, 0, none⟩) by rw [hz], show (Value.pointer (some ⟨w.heap.size, 0, none⟩)) = .pointer (some ⟨gb, 0, none⟩) by rw [hgb]]
  clear hwa hcb1 hz hgb
  have HOF : Hid (∀ w', Below wa.heap.size wa w' → Calls Try.prog 55 #[.int .u64 (p : Int)] w' fun e w'' => ∃ (D : Option Addr) (l c : Nat), e = .returned (.agg #[.slice D l c]) ∧ Hid (l = L32 p) ∧ Cells w'' D l (Lm (d32 p)) ∧ Below w'.heap.size w' w'' ∧ Below wa.heap.size wa w'') := Lib.hid fun w' hw => by
    refine (of_new p (Nat.lt_of_le_of_lt HPP.out (by decide)) w').mono ?_
    rintro e w'' ⟨D, c, rfl, _, h1, _, h2⟩
    exact ⟨D, _, c, rfl, Lib.hid rfl, h1, h2, Below.on hw h2⟩
  have HPW : Hid (∀ w' D l c, Hid (l = L32 p) → Cells w' D l (Lm (d32 p)) → Below wa.heap.size wa w' → Calls Try.prog 50 #[.agg #[.slice D l c], .int .i64 (d : Int)] w' fun e w'' => ∃ (P : Option Addr) (k : Nat), e = .returned (.tuple #[.slice P ds k, .int .i64 0]) ∧ Hid (Pw w'' P d p) ∧ Hid (Fresh wa.heap.size P) ∧ Below w'.heap.size w' w'' ∧ Below wa.heap.size wa w'') := Lib.hid fun w' D l c hl hc hw => by
    refine (powers_any (a := p) (by rw [hl.out]; exact HP64.out) hl.out hc HD64.out).mono ?_
    rintro e w'' ⟨⟨_, P, k, G, rfl, h1, h2, h3⟩ | ⟨h9, _⟩, hb⟩
    · exact ⟨P, k, by rw [show ds = d + 1 from Hds.out], Lib.hid ⟨G, h1, h2⟩, Lib.hid (h3.mono hw.size), hb, Below.on hw hb⟩
    · exact absurd h9 (by have := HPD.out; omega)
  have HALL : Hid (∀ w', Below wa.heap.size wa w' → w'.cell? ⟨gb, 3, none⟩ = some (.int .i64 (m : Int)) ∧ w'.cell? ⟨gb, 4, none⟩ = some (.int .i64 (o : Int)) ∧ Below wa.heap.size wa w') := Lib.hid fun w' hw => ⟨((BSA.out.on hw).get (.tail _ (.tail _ (.head _)))).2.2.cell 3, ((BSA.out.on hw).get (.tail _ (.tail _ (.head _)))).2.2.cell 4, hw⟩
  have A0 : Below wa.heap.size wa wa.drew := (Below.refl _ _).drew
  go_cut [7, 8] (fun s7 s8 wx => s7 = .int .i64 0 ∧ ∃ (P : Option Addr) (kp : Nat), s8 = .slice P ds kp ∧ Hid (Pw wx P d p) ∧ Hid (Fresh wa.heap.size P) ∧ Hid (Below wa.heap.size wa wx))
  case first =>
    go_region_held3 (fun w' => w'.cell? ⟨gb, 3, none⟩ = some (.int .i64 (m : Int)) ∧ w'.cell? ⟨gb, 4, none⟩ = some (.int .i64 (o : Int)) ∧ Below wa.heap.size wa w')
      (first | exact HALL.out _ (by assumption))
      (first
        | (go_at_call 55; (with_reducible refine (HOF.out _ ?_).mono ?_); (first | assumption); rintro e5 w5 ⟨D5, l5, c5, rfl, hl5, hc5, hb5, t5⟩; have h5 := HALL.out _ t5)
        | (go_at_call 50; (with_reducible refine (HPW.out _ _ _ _ ?_ ?_ ?_).mono ?_); (first | assumption); (first | assumption); (first | assumption); rintro e6 w6 ⟨P6, k6, rfl, hp6, hf6, hb6, t6⟩; have h6 := HALL.out _ t6)
        | fail)
    all_goals
      go_wp2_with fail
      go_meet
      case rel => exact ⟨rfl, P6, k6, rfl, hp6, hf6, Lib.hid t6⟩
  clear HOF HPW HALL A0
  obtain ⟨rfl, PA, kPA, rfl, HPA, HFPA, HBPA⟩ := hcut
  have BSB := Lib.hid (BSA.out.on HBPA.out)
  have C2 := Lib.hid (C1.out.below HBPA.out)
  have BSA0 := BSA
  clear BSA C1
  rename World => wb
  have HOF : Hid (∀ w', Below wb.heap.size wb w' → Calls Try.prog 55 #[.int .u64 (o : Int)] w' fun e w'' => ∃ (D : Option Addr) (l c : Nat), e = .returned (.agg #[.slice D l c]) ∧ Hid (l = L32 o) ∧ Cells w'' D l (Lm (d32 o)) ∧ Below w'.heap.size w' w'' ∧ Below wb.heap.size wb w'') := Lib.hid fun w' hw => by
    refine (of_new o (Nat.lt_of_le_of_lt HOO.out (by decide)) w').mono ?_
    rintro e w'' ⟨D, c, rfl, _, h1, _, h2⟩
    exact ⟨D, _, c, rfl, Lib.hid rfl, h1, h2, Below.on hw h2⟩
  have HPW : Hid (∀ w' D l c, Hid (l = L32 o) → Cells w' D l (Lm (d32 o)) → Below wb.heap.size wb w' → Calls Try.prog 50 #[.agg #[.slice D l c], .int .i64 (m : Int)] w' fun e w'' => ∃ (P : Option Addr) (k : Nat), e = .returned (.tuple #[.slice P ms k, .int .i64 0]) ∧ Hid (Pw w'' P m o) ∧ Hid (Fresh wb.heap.size P) ∧ Below w'.heap.size w' w'' ∧ Below wb.heap.size wb w'') := Lib.hid fun w' D l c hl hc hw => by
    refine (powers_any (a := o) (by rw [hl.out]; exact HO64.out) hl.out hc HM64.out).mono ?_
    rintro e w'' ⟨⟨_, P, k, G, rfl, h1, h2, h3⟩ | ⟨h9, _⟩, hb⟩
    · exact ⟨P, k, by rw [show ms = m + 1 from Hms.out], Lib.hid ⟨G, h1, h2⟩, Lib.hid (h3.mono hw.size), hb, Below.on hw hb⟩
    · exact absurd h9 (by have := HOM.out; omega)
  have HALL : Hid (∀ w', Below wb.heap.size wb w' → w'.cell? ⟨gb, 3, none⟩ = some (.int .i64 (m : Int)) ∧ w'.cell? ⟨gb, 4, none⟩ = some (.int .i64 (o : Int)) ∧ Below wb.heap.size wb w') := Lib.hid fun w' hw => ⟨((BSB.out.on hw).get (.tail _ (.tail _ (.head _)))).2.2.cell 3, ((BSB.out.on hw).get (.tail _ (.tail _ (.head _)))).2.2.cell 4, hw⟩
  have A0 : Below wb.heap.size wb wb.drew := (Below.refl _ _).drew
  go_upto_region 7 with (fail)
  go_cut [7, 9] (fun s7 s8 wx => s7 = .int .i64 0 ∧ ∃ (P : Option Addr) (kp : Nat), s8 = .slice P ms kp ∧ Hid (Pw wx P m o) ∧ Hid (Fresh wb.heap.size P) ∧ Hid (Below wb.heap.size wb wx))
  case first =>
    go_region_held3 (fun w' => w'.cell? ⟨gb, 3, none⟩ = some (.int .i64 (m : Int)) ∧ w'.cell? ⟨gb, 4, none⟩ = some (.int .i64 (o : Int)) ∧ Below wb.heap.size wb w')
      (first | exact HALL.out _ (by assumption))
      (first
        | (go_at_call 55; (with_reducible refine (HOF.out _ ?_).mono ?_); (first | assumption); rintro e5 w5 ⟨D5, l5, c5, rfl, hl5, hc5, hb5, t5⟩; have h5 := HALL.out _ t5)
        | (go_at_call 50; (with_reducible refine (HPW.out _ _ _ _ ?_ ?_ ?_).mono ?_); (first | assumption); (first | assumption); (first | assumption); rintro e6 w6 ⟨P6, k6, rfl, hp6, hf6, hb6, t6⟩; have h6 := HALL.out _ t6)
        | fail)
    all_goals
      go_wp2_with fail
      go_meet
      case rel => exact ⟨rfl, P6, k6, rfl, hp6, hf6, Lib.hid t6⟩
  clear HOF HPW HALL A0
  obtain ⟨rfl, PB, kPB, rfl, HPB, HFPB, HBPB⟩ := hcut
  have BSC := Lib.hid (BSB.out.on HBPB.out)
  have C3 := Lib.hid (C2.out.below HBPB.out)
  have HPA3 := Lib.hid (HPA.out.below HBPB.out)
  have LCA := Lib.hid (BSA0.out.get (.head _)).2.1
  have LCB := Lib.hid (BSB.out.get (.head _)).2.1
  clear BSB BSA0 C2 HPA HBPA HBPB
  rename World => wc
  obtain ⟨GA, hcA, heA⟩ := HPA3.out
  obtain ⟨b1, o1, rfl, hlt1, hc1⟩ := cells_at hcA (k := d) (by omega)
  obtain ⟨Dx, lx, cx, hGx, hlx, hcx⟩ := heA d (Nat.le_refl d)
  rw [hGx] at hc1
  obtain ⟨GB, hcB, heB⟩ := HPB.out
  obtain ⟨b2, o2, rfl, hlt2, hc2⟩ := cells_at hcB (k := m) (by omega)
  obtain ⟨Dy, ly, cy, hGy, hly, hcy⟩ := heB m (Nat.le_refl m)
  rw [hGy] at hc2
  rw [← show y = o ^ m from HYE.out] at hly hcy
  have HOM' : Hid (L32 y ≤ 2) := Lib.hid (by rw [show y = o ^ m from HYE.out]; exact HOM.out)
  have n2 : b2 ≠ cb1 := by have h1 : _ ≤ b2 := HFPB.out _ rfl; have h2 : cb1 < _ := LCB.out; omega
  have HNZ : Hid (b2 ≠ z) := Lib.hid (by have h1 : _ ≤ b2 := HFPB.out _ rfl; have h2 : cb1 < _ := LCB.out; have := HZC.out; omega)
  have lx64 : lx ≤ 64 := by rw [hlx]; exact Nat.le_trans HPD.out (by omega)
  have ly64 : ly ≤ 64 := by rw [hly]; exact Nat.le_trans HOM'.out (by omega)
  have l164 : l1 ≤ 64 := by rw [L1.out]; exact Nat.le_trans HC1.out (by omega)
  obtain ⟨lX, hlX⟩ : ∃ l, l = L32 x := ⟨_, rfl⟩
  have HLX := Lib.hid hlX
  have HLx := Lib.hid hlx
  have HLy := Lib.hid hly
  have HCx := Lib.hid hcx
  have HCy := Lib.hid hcy
  have HC2 := Lib.hid hc2
  have HT2 := Lib.hid hlt2
  have lX64 : lX ≤ 64 := by rw [hlX]; exact Nat.le_trans HX34.out (by omega)
  have HY2 := Lib.hid (show y > 0 from HY0.out)
  clear hcA heA hGx hlx hcx hcB heB hGy hly hcy hc2 hlt2 HPA3 HPB HFPA HFPB HPD HOM HOM' HX34 hlX LCA LCB HC1
  have HMU : Hid (∀ w', Below wc.heap.size wc w' → Calls Try.prog 84 #[.agg #[.slice D1 l1 c1], .agg #[.slice Dx lx cx]] w' fun e w'' => ∃ (D : Option Addr) (c : Nat), e = .returned (.tuple #[.agg #[.slice D lX c], .int .i64 0]) ∧ Cells w'' D lX (Lm (d32 x)) ∧ Fresh w'.heap.size D ∧ Below w'.heap.size w' w'' ∧ Below wc.heap.size wc w'') := Lib.hid fun w' hw => by
    refine (mul_any (x := C) (y := p ^ d) l164 lx64 L1.out HLx.out (C3.out.below hw) (HCx.out.below hw)).mono ?_
    rintro e w'' ⟨hr, hb⟩
    rw [← HXE.out] at hr
    rcases hr with ⟨_, D, c, rfl, _, h5, h6⟩ | ⟨h9, _⟩
    · rw [← HLX.out] at h5 ⊢
      exact ⟨D, c, rfl, h5, h6, hb, Below.on hw hb⟩
    · exact absurd h9 (by rw [← show lX = L32 x from HLX.out]; omega)
  have qc : wc.cell? ⟨cb1, 0, none⟩ = some (.slice D1 l1 c1) := (BSC.out.get (.head _)).2.2.cell 0
  have fc : wc.frozen? ⟨cb1, 0, none⟩ = false := (BSC.out.get (.head _)).2.2.frozen 0
  have lc := (BSC.out.get (.head _)).2.1
  have A0 : Below wc.heap.size wc wc.drew := (Below.refl _ _).drew
  go_upto_region 10 with (fail)
  go_cut [7] (fun s7 wx => s7 = .int .i64 0 ∧ ∃ (D2 : Option Addr) (c2 : Nat), Hid (Bs w wx [(cb1, TN, #[.slice D2 lX c2]), (z, TF, #[.slice none 0 0, .slice none 0 0])]) ∧ Hid (Cells wx D2 lX (Lm (d32 x))) ∧ Hid (wx.cell? ⟨b2, o2 + m, none⟩ = some (.slice Dy ly cy)) ∧ Hid (b2 < wx.heap.size) ∧ Hid (Cells wx Dy ly (Lm (d32 y))))
  case first =>
    go_region_with
      (first
        | (go_at_call 84; (with_reducible refine (HMU.out _ ?_).mono ?_); (first | assumption); rintro e6 w6 ⟨D6, c6, rfl, hc6, hf6, hb6, t6⟩; have g6 : w6.cell? ⟨cb1, 0, none⟩ = some (.slice D1 l1 c1) := ((bcell t6).1 _ _ lc).trans qc; have h6 : w6.frozen? ⟨cb1, 0, none⟩ = false := ((bcell t6).2 _ _ lc).trans fc; have s6 := t6.size)
        | fail)
    all_goals
      go_wp2_with fail
      go_meet
      case rel =>
        refine ⟨rfl, D6, c6, Lib.hid (((BSC.out.on t6).sub (l' := [(cb1, TN, #[.slice D1 l1 c1]), (z, TF, #[.slice none 0 0, .slice none 0 0])]) (fun x hx => by
          simp only [List.mem_cons, List.not_mem_nil, or_false] at hx ⊢
          rcases hx with h | h <;> simp [h])).put (fun b' t' cs' hb => by have := HZC.out; simp at hb; omega) 0 _), Lib.hid (hc6.set_ hf6 (by have h1 := A0.size; omega) _ _), Lib.hid (cell_put (((bcell t6).1 _ _ HT2.out).trans HC2.out) n2), Lib.hid (by have := HT2.out; simp; omega), Lib.hid fun h0 => (((HCy.out.below t6).apart (lm_off ((BSC.out.on t6).get (.head _)).2.2 (HCy.out.below t6) h0) 0 _) h0)⟩
  obtain ⟨rfl, D2, c2, BSD, HCX, HC2', HT2', HCY⟩ := hcut
  clear HMU qc fc lc A0 BSC C3 HCx HCy HC2 HT2
  rename World => wd
  have HMK : Hid (∀ w', Below wd.heap.size wd w' → Calls Try.prog 57 #[.agg #[.slice D2 lX c2], .agg #[.slice Dy ly cy]] w' fun e w'' => (∃ Da la ca Db lb' cb', e = .returned (.tuple #[.agg #[.slice Da la ca, .slice Db lb' cb'], .int .i64 0]) ∧ Hid (la = L32 qa) ∧ Hid (lb' = L32 qb) ∧ la ≤ ca ∧ lb' ≤ cb' ∧ Cells w'' Da la (Lm (d32 qa)) ∧ Cells w'' Db lb' (Lm (d32 qb)) ∧ Fresh w'.heap.size Da ∧ Fresh w'.heap.size Db) ∧ Below w'.heap.size w' w'' ∧ Below wd.heap.size wd w'') := Lib.hid fun w' hw => by
    refine (make_any (x := x) (y := y) lX64 ly64 HLX.out HLy.out (HCX.out.below hw) (HCY.out.below hw) HY2.out).mono ?_
    rintro e w'' ⟨⟨Da, ca, Db, cb', rfl, hla, hlb, hca, hcb, hfa, hfb⟩, hb⟩
    rw [← HQA.out] at hla hca ⊢
    rw [← HQB.out] at hlb hcb ⊢
    exact ⟨⟨Da, _, ca, Db, _, cb', rfl, Lib.hid rfl, Lib.hid rfl, hla, hlb, hca, hcb, hfa, hfb⟩, hb, Below.on hw hb⟩
  have HALL : Hid (∀ w', Below wd.heap.size wd w' → w'.cell? ⟨cb1, 0, none⟩ = some (.slice D2 lX c2) ∧ w'.cell? ⟨b2, o2 + m, none⟩ = some (.slice Dy ly cy)) := Lib.hid fun w' hw =>
    ⟨((BSD.out.on hw).get (.head _)).2.2.cell 0, ((bcell hw).1 _ _ HT2'.out).trans HC2'.out⟩
  have A0 : Below wd.heap.size wd wd.drew := (Below.refl _ _).drew
  have n1 : cb1 ≠ z := by have := HZC.out; omega
  have n3 : b2 ≠ z := by have := HNZ.out; omega
  go_upto_region 13 with (fail)
  go_region_held3 (fun w' => w'.cell? ⟨cb1, 0, none⟩ = some (.slice D2 lX c2) ∧ w'.cell? ⟨b2, o2 + m, none⟩ = some (.slice Dy ly cy))
    (first
      | exact ⟨cell_put (cell_put h8.1 n1) n1, cell_put (cell_put h8.2 n3) n3⟩
      | exact ⟨cell_put h8.1 n1, cell_put h8.2 n3⟩
      | exact HALL.out _ (by assumption))
    (first
      | (go_at_call 57; (with_reducible refine (HMK.out _ ?_).mono ?_); (first | assumption); rintro e6 w8 ⟨⟨Da, la, ca, Db, lb', cb', rfl, hla, hlb, hl1, hl2, hca, hcb, hfa, hfb⟩, hb6, t6⟩; have h8 := HALL.out _ t6; have g6 : w8.cell? ⟨z, 0, none⟩ = some (.slice none 0 0) := ((BSD.out.on t6).get (.tail _ (.head _))).2.2.cell 0; have g7 : w8.cell? ⟨z, 1, none⟩ = some (.slice none 0 0) := ((BSD.out.on t6).get (.tail _ (.head _))).2.2.cell 1; have h6 : w8.frozen? ⟨z, 0, none⟩ = false := ((BSD.out.on t6).get (.tail _ (.head _))).2.2.frozen 0; have h7 : w8.frozen? ⟨z, 1, none⟩ = false := ((BSD.out.on t6).get (.tail _ (.head _))).2.2.frozen 1)
      | fail)
  all_goals
    have HB6 := Lib.hid (BSD.out.on t6).below
    have LZ := Lib.hid (Nat.lt_of_lt_of_le (BSD.out.get (.tail _ (.head _))).2.1 A0.size)
    have LW := Lib.hid BSD.out.below.size
    go_wp2
    refine bodyPost_ret (v := .tuple #[.agg #[.slice Da la ca, .slice Db lb' cb'], .int .i64 0]) (by simp [results, Try.results65, go_sem, g6, g7]) rfl ?_
    refine ⟨⟨Da, ca, Db, cb', by rw [← hla.out, ← hlb.out]; rfl, by rw [← hla.out]; exact hl1, by rw [← hlb.out]; exact hl2, ?_, ?_, hfa.mono (Nat.le_trans LW.out (by simp)), hfb.mono (Nat.le_trans LW.out (by simp))⟩, bse (bse HB6.out HZW.out _ _) HZW.out _ _⟩
    · rw [← hla.out]
      exact (hca.set_ hfa (Nat.lt_of_lt_of_le LZ.out (by simp)) _ _).set_ hfa (Nat.lt_of_lt_of_le LZ.out (by simp)) _ _
    · rw [← hlb.out]
      exact (hcb.set_ hfb (Nat.lt_of_lt_of_le LZ.out (by simp)) _ _).set_ hfb (Nat.lt_of_lt_of_le LZ.out (by simp)) _ _
end Fa
end Go.Proofs.Ytiflmnmkmpjecaa

/- The walk of fairness.HitsChance in the other cases. -/
set_option linter.unusedVariables false
namespace Go.Proofs.Ytiflmnmkmpjecaa
open Go.RowKit
namespace Fa
open Fr
set_option maxHeartbeats 4000000 in
set_option maxRecDepth 100000 in
theorem hits_bad1 (w : World) {m o h : Int} (hb : o < 0 ∨ 0 ≤ o ∧ 80 < o ∨ 0 ≤ o ∧ o ≤ 80 ∧ m < 0 ∨ 0 ≤ o ∧ o ≤ 80 ∧ 0 ≤ m ∧ o < m) :
    Calls Try.prog 26 #[.agg (gc 1 m o), .int .i64 h] w fun e w' => Err e 2 ∧ Below w.heap.size w w' := by
  have BS0 := Lib.hid (boxesG w (gc 1 m o))
  unfold gc at BS0 ⊢
  rcases hb with h1 | ⟨h1, h2⟩ | ⟨h1, h2, h3⟩ | ⟨h1, h2, h3, h4⟩
  all_goals
    go_enter Try.func26, Try.ntmps26
    go_upto_region 1 with (fail)
    obtain ⟨wa, hwa⟩ : ∃ wa, wa = ((w.alloc (.cells #[.string ⟨#[]⟩, .int .i64 1, .int .i64 0, .int .i64 m, .int .i64 o, .int .i64 0, .int .i64 0, .int .i64 0, .int .i64 0, .int .i64 0, .int .i64 0, .int .i64 0, .int .i64 0, .int .i64 0, .int .i64 0, .int .i64 0, .int .i64 0, .int .i64 0, .int .i64 0, .int .i64 0, .slice none 0 0, .slice none 0 0] TG)).alloc (.cells #[.slice none 0 0, .slice none 0 0] TF)) := ⟨_, rfl⟩
    change Code.wp _ _ _ _ ((w.alloc (.cells #[.string ⟨#[]⟩, .int .i64 1, .int .i64 0, .int .i64 m, .int .i64 o, .int .i64 0, .int .i64 0, .int .i64 0, .int .i64 0, .int .i64 0, .int .i64 0, .int .i64 0, .int .i64 0, .int .i64 0, .int .i64 0, .int .i64 0, .int .i64 0, .int .i64 0, .int .i64 0, .int .i64 0, .slice none 0 0, .slice none 0 0] TG)).alloc (.cells #[.slice none 0 0, .slice none 0 0] TF))
    rw [← hwa] at BS0 ⊢
    obtain ⟨gb, hgb⟩ : ∃ b, b = w.heap.size := ⟨_, rfl⟩
    obtain ⟨z, hz⟩ : ∃ b, b = w.heap.size + 1 := ⟨_, rfl⟩
    have hzw : w.heap.size ≤ z := by omega
    have bs0 := BS0.out
    rw [← hgb, ← show z = gb + 1 by omega] at bs0
    rw [show (Value.pointer (some ⟨w.heap.size, 0, none⟩)) = .pointer (some ⟨gb, 0, none⟩) by rw [hgb], show (Value.pointer (some ⟨w.heap.size + 1, 0, none⟩)) = .pointer (some ⟨z, 0, none⟩) by rw [hz]]
    have BSA := Lib.hid bs0
    clear hwa BS0
    obtain ⟨_, lg, kg⟩ := bs0.get (.tail _ (.head _))
    have q1 : wa.cell? ⟨gb, 1, none⟩ = some (.int .i64 1) := kg.cell 1
    have q3 : wa.cell? ⟨gb, 3, none⟩ = some (.int .i64 m) := kg.cell 3
    have q4 : wa.cell? ⟨gb, 4, none⟩ = some (.int .i64 o) := kg.cell 4
    have KG := Lib.hid (show wa.heap[gb]? = some (.cells #[.string ⟨#[]⟩, .int .i64 1, .int .i64 0, .int .i64 m, .int .i64 o, .int .i64 0, .int .i64 0, .int .i64 0, .int .i64 0, .int .i64 0, .int .i64 0, .int .i64 0, .int .i64 0, .int .i64 0, .int .i64 0, .int .i64 0, .int .i64 0, .int .i64 0, .int .i64 0, .int .i64 0, .slice none 0 0, .slice none 0 0] TG (0, 0)) from kg)
    clear kg bs0 hgb hz
    obtain ⟨_, lz, kz⟩ := BSA.out.get (.head _)
    have s0 : wa.cell? ⟨z, 0, none⟩ = some (.slice none 0 0) := kz.cell 0
    have s1 : wa.cell? ⟨z, 1, none⟩ = some (.slice none 0 0) := kz.cell 1
    have f0 : wa.frozen? ⟨z, 0, none⟩ = false := kz.frozen 0
    have f1 : wa.frozen? ⟨z, 1, none⟩ = false := kz.frozen 1
    have HB7 := Lib.hid BSA.out.below
    clear kz KG
    go_wp2
    refine bodyPost_ret (v := .tuple #[fv none 0 0 none 0 0, .int .i64 2]) (by unfold fv; simp [results, Try.results26, go_sem, s0, s1]) rfl ?_
    refine ⟨rfl, ?_⟩
    repeat' (first | exact HB7.out | refine bl_alloc ?_ _ | refine bse ?_ (by first | assumption | exact Nat.le_refl _) _ _)
set_option maxHeartbeats 4000000 in
set_option maxRecDepth 100000 in
theorem hits_bad2 (w : World) {m o h : Int} (hb : o < 1 ∨ 1 ≤ o ∧ 10 < o ∨ 1 ≤ o ∧ o ≤ 10 ∧ m < 0 ∨ 1 ≤ o ∧ o ≤ 10 ∧ 0 ≤ m ∧ 10 < m) :
    Calls Try.prog 26 #[.agg (gc 2 m o), .int .i64 h] w fun e w' => Err e 2 ∧ Below w.heap.size w w' := by
  have BS0 := Lib.hid (boxesG w (gc 2 m o))
  unfold gc at BS0 ⊢
  rcases hb with h1 | ⟨h1, h2⟩ | ⟨h1, h2, h3⟩ | ⟨h1, h2, h3, h4⟩
  all_goals
    go_enter Try.func26, Try.ntmps26
    go_upto_region 1 with (fail)
    obtain ⟨wa, hwa⟩ : ∃ wa, wa = ((w.alloc (.cells #[.string ⟨#[]⟩, .int .i64 2, .int .i64 0, .int .i64 m, .int .i64 o, .int .i64 0, .int .i64 0, .int .i64 0, .int .i64 0, .int .i64 0, .int .i64 0, .int .i64 0, .int .i64 0, .int .i64 0, .int .i64 0, .int .i64 0, .int .i64 0, .int .i64 0, .int .i64 0, .int .i64 0, .slice none 0 0, .slice none 0 0] TG)).alloc (.cells #[.slice none 0 0, .slice none 0 0] TF)) := ⟨_, rfl⟩
    change Code.wp _ _ _ _ ((w.alloc (.cells #[.string ⟨#[]⟩, .int .i64 2, .int .i64 0, .int .i64 m, .int .i64 o, .int .i64 0, .int .i64 0, .int .i64 0, .int .i64 0, .int .i64 0, .int .i64 0, .int .i64 0, .int .i64 0, .int .i64 0, .int .i64 0, .int .i64 0, .int .i64 0, .int .i64 0, .int .i64 0, .int .i64 0, .slice none 0 0, .slice none 0 0] TG)).alloc (.cells #[.slice none 0 0, .slice none 0 0] TF))
    rw [← hwa] at BS0 ⊢
    obtain ⟨gb, hgb⟩ : ∃ b, b = w.heap.size := ⟨_, rfl⟩
    obtain ⟨z, hz⟩ : ∃ b, b = w.heap.size + 1 := ⟨_, rfl⟩
    have hzw : w.heap.size ≤ z := by omega
    have bs0 := BS0.out
    rw [← hgb, ← show z = gb + 1 by omega] at bs0
    rw [show (Value.pointer (some ⟨w.heap.size, 0, none⟩)) = .pointer (some ⟨gb, 0, none⟩) by rw [hgb], show (Value.pointer (some ⟨w.heap.size + 1, 0, none⟩)) = .pointer (some ⟨z, 0, none⟩) by rw [hz]]
    have BSA := Lib.hid bs0
    clear hwa BS0
    obtain ⟨_, lg, kg⟩ := bs0.get (.tail _ (.head _))
    have q1 : wa.cell? ⟨gb, 1, none⟩ = some (.int .i64 2) := kg.cell 1
    have q3 : wa.cell? ⟨gb, 3, none⟩ = some (.int .i64 m) := kg.cell 3
    have q4 : wa.cell? ⟨gb, 4, none⟩ = some (.int .i64 o) := kg.cell 4
    have KG := Lib.hid (show wa.heap[gb]? = some (.cells #[.string ⟨#[]⟩, .int .i64 2, .int .i64 0, .int .i64 m, .int .i64 o, .int .i64 0, .int .i64 0, .int .i64 0, .int .i64 0, .int .i64 0, .int .i64 0, .int .i64 0, .int .i64 0, .int .i64 0, .int .i64 0, .int .i64 0, .int .i64 0, .int .i64 0, .int .i64 0, .int .i64 0, .slice none 0 0, .slice none 0 0] TG (0, 0)) from kg)
    clear kg bs0 hgb hz
    obtain ⟨_, lz, kz⟩ := BSA.out.get (.head _)
    have s0 : wa.cell? ⟨z, 0, none⟩ = some (.slice none 0 0) := kz.cell 0
    have s1 : wa.cell? ⟨z, 1, none⟩ = some (.slice none 0 0) := kz.cell 1
    have f0 : wa.frozen? ⟨z, 0, none⟩ = false := kz.frozen 0
    have f1 : wa.frozen? ⟨z, 1, none⟩ = false := kz.frozen 1
    have HB7 := Lib.hid BSA.out.below
    clear kz KG
    go_wp2
    refine bodyPost_ret (v := .tuple #[fv none 0 0 none 0 0, .int .i64 2]) (by unfold fv; simp [results, Try.results26, go_sem, s0, s1]) rfl ?_
    refine ⟨rfl, ?_⟩
    repeat' (first | exact HB7.out | refine bl_alloc ?_ _ | refine bse ?_ (by first | assumption | exact Nat.le_refl _) _ _)
set_option maxHeartbeats 4000000 in
set_option maxRecDepth 100000 in
theorem hits_bad3 (w : World) {m o h k : Int} (hb : k ≠ 1 ∧ k ≠ 2) :
    Calls Try.prog 26 #[.agg (gc k m o), .int .i64 h] w fun e w' => Err e 7 ∧ Below w.heap.size w w' := by
  have BS0 := Lib.hid (boxesG w (gc k m o))
  unfold gc at BS0 ⊢
  have e1 : (k == 1) = false := by simp [hb.1]
  have e2 : (k == 2) = false := by simp [hb.2]
  clear hb
  skip
  all_goals
    go_enter Try.func26, Try.ntmps26
    go_upto_region 1 with (fail)
    obtain ⟨wa, hwa⟩ : ∃ wa, wa = ((w.alloc (.cells #[.string ⟨#[]⟩, .int .i64 k, .int .i64 0, .int .i64 m, .int .i64 o, .int .i64 0, .int .i64 0, .int .i64 0, .int .i64 0, .int .i64 0, .int .i64 0, .int .i64 0, .int .i64 0, .int .i64 0, .int .i64 0, .int .i64 0, .int .i64 0, .int .i64 0, .int .i64 0, .int .i64 0, .slice none 0 0, .slice none 0 0] TG)).alloc (.cells #[.slice none 0 0, .slice none 0 0] TF)) := ⟨_, rfl⟩
    change Code.wp _ _ _ _ ((w.alloc (.cells #[.string ⟨#[]⟩, .int .i64 k, .int .i64 0, .int .i64 m, .int .i64 o, .int .i64 0, .int .i64 0, .int .i64 0, .int .i64 0, .int .i64 0, .int .i64 0, .int .i64 0, .int .i64 0, .int .i64 0, .int .i64 0, .int .i64 0, .int .i64 0, .int .i64 0, .int .i64 0, .int .i64 0, .slice none 0 0, .slice none 0 0] TG)).alloc (.cells #[.slice none 0 0, .slice none 0 0] TF))
    rw [← hwa] at BS0 ⊢
    obtain ⟨gb, hgb⟩ : ∃ b, b = w.heap.size := ⟨_, rfl⟩
    obtain ⟨z, hz⟩ : ∃ b, b = w.heap.size + 1 := ⟨_, rfl⟩
    have hzw : w.heap.size ≤ z := by omega
    have bs0 := BS0.out
    rw [← hgb, ← show z = gb + 1 by omega] at bs0
    rw [show (Value.pointer (some ⟨w.heap.size, 0, none⟩)) = .pointer (some ⟨gb, 0, none⟩) by rw [hgb], show (Value.pointer (some ⟨w.heap.size + 1, 0, none⟩)) = .pointer (some ⟨z, 0, none⟩) by rw [hz]]
    have BSA := Lib.hid bs0
    clear hwa BS0
    obtain ⟨_, lg, kg⟩ := bs0.get (.tail _ (.head _))
    have q1 : wa.cell? ⟨gb, 1, none⟩ = some (.int .i64 k) := kg.cell 1
    have q3 : wa.cell? ⟨gb, 3, none⟩ = some (.int .i64 m) := kg.cell 3
    have q4 : wa.cell? ⟨gb, 4, none⟩ = some (.int .i64 o) := kg.cell 4
    have KG := Lib.hid (show wa.heap[gb]? = some (.cells #[.string ⟨#[]⟩, .int .i64 k, .int .i64 0, .int .i64 m, .int .i64 o, .int .i64 0, .int .i64 0, .int .i64 0, .int .i64 0, .int .i64 0, .int .i64 0, .int .i64 0, .int .i64 0, .int .i64 0, .int .i64 0, .int .i64 0, .int .i64 0, .int .i64 0, .int .i64 0, .int .i64 0, .slice none 0 0, .slice none 0 0] TG (0, 0)) from kg)
    clear kg bs0 hgb hz
    obtain ⟨_, lz, kz⟩ := BSA.out.get (.head _)
    have s0 : wa.cell? ⟨z, 0, none⟩ = some (.slice none 0 0) := kz.cell 0
    have s1 : wa.cell? ⟨z, 1, none⟩ = some (.slice none 0 0) := kz.cell 1
    have f0 : wa.frozen? ⟨z, 0, none⟩ = false := kz.frozen 0
    have f1 : wa.frozen? ⟨z, 1, none⟩ = false := kz.frozen 1
    have HB7 := Lib.hid BSA.out.below
    clear kz KG
    go_wp2
    refine bodyPost_ret (v := .tuple #[fv none 0 0 none 0 0, .int .i64 7]) (by unfold fv; simp [results, Try.results26, go_sem, s0, s1]) rfl ?_
    refine ⟨rfl, ?_⟩
    repeat' (first | exact HB7.out | refine bl_alloc ?_ _ | refine bse ?_ (by first | assumption | exact Nat.le_refl _) _ _)
set_option maxHeartbeats 4000000 in
set_option maxRecDepth 100000 in
theorem hits_none1 (w : World) {m o : Nat} {h : Int} (hm : m ≤ o) (ho : o ≤ 80) (hh : h < 0 ∨ 0 ≤ h ∧ (m : Int) < h) :
    Calls Try.prog 26 #[.agg (gc 1 m o), .int .i64 h] w fun e w' => Res w.heap.size w' e (0 / Nat.gcd 0 1) (1 / Nat.gcd 0 1) ∧ Below w.heap.size w w' := by
  have BS0 := Lib.hid (boxesG w (gc 1 m o))
  have HOF := Lib.hid fun w' => of_ok w' (x := 0) (y := 1) (by omega) (by omega) (by omega)
  obtain ⟨qa, hqa⟩ : ∃ v, v = 0 / Nat.gcd 0 1 := ⟨_, rfl⟩
  obtain ⟨qb, hqb⟩ : ∃ v, v = 1 / Nat.gcd 0 1 := ⟨_, rfl⟩
  rw [← hqa, ← hqb] at HOF ⊢
  clear hqa hqb
  unfold gc at BS0 ⊢
  rcases hh with h1 | ⟨h1, h2⟩
  all_goals
    go_enter Try.func26, Try.ntmps26
    go_upto_region 1 with (fail)
    obtain ⟨wa, hwa⟩ : ∃ wa, wa = ((w.alloc (.cells #[.string ⟨#[]⟩, .int .i64 1, .int .i64 0, .int .i64 (m : Int), .int .i64 (o : Int), .int .i64 0, .int .i64 0, .int .i64 0, .int .i64 0, .int .i64 0, .int .i64 0, .int .i64 0, .int .i64 0, .int .i64 0, .int .i64 0, .int .i64 0, .int .i64 0, .int .i64 0, .int .i64 0, .int .i64 0, .slice none 0 0, .slice none 0 0] TG)).alloc (.cells #[.slice none 0 0, .slice none 0 0] TF)) := ⟨_, rfl⟩
    change Code.wp _ _ _ _ ((w.alloc (.cells #[.string ⟨#[]⟩, .int .i64 1, .int .i64 0, .int .i64 (m : Int), .int .i64 (o : Int), .int .i64 0, .int .i64 0, .int .i64 0, .int .i64 0, .int .i64 0, .int .i64 0, .int .i64 0, .int .i64 0, .int .i64 0, .int .i64 0, .int .i64 0, .int .i64 0, .int .i64 0, .int .i64 0, .int .i64 0, .slice none 0 0, .slice none 0 0] TG)).alloc (.cells #[.slice none 0 0, .slice none 0 0] TF))
    rw [← hwa] at BS0 ⊢
    obtain ⟨gb, hgb⟩ : ∃ b, b = w.heap.size := ⟨_, rfl⟩
    obtain ⟨z, hz⟩ : ∃ b, b = w.heap.size + 1 := ⟨_, rfl⟩
    have hzw : w.heap.size ≤ z := by omega
    have bs0 := BS0.out
    rw [← hgb, ← show z = gb + 1 by omega] at bs0
    rw [show (Value.pointer (some ⟨w.heap.size, 0, none⟩)) = .pointer (some ⟨gb, 0, none⟩) by rw [hgb], show (Value.pointer (some ⟨w.heap.size + 1, 0, none⟩)) = .pointer (some ⟨z, 0, none⟩) by rw [hz]]
    have BSA := Lib.hid bs0
    clear hwa BS0
    obtain ⟨_, lg, kg⟩ := bs0.get (.tail _ (.head _))
    have q1 : wa.cell? ⟨gb, 1, none⟩ = some (.int .i64 1) := kg.cell 1
    have q3 : wa.cell? ⟨gb, 3, none⟩ = some (.int .i64 (m : Int)) := kg.cell 3
    have q4 : wa.cell? ⟨gb, 4, none⟩ = some (.int .i64 (o : Int)) := kg.cell 4
    have KG := Lib.hid (show wa.heap[gb]? = some (.cells #[.string ⟨#[]⟩, .int .i64 1, .int .i64 0, .int .i64 (m : Int), .int .i64 (o : Int), .int .i64 0, .int .i64 0, .int .i64 0, .int .i64 0, .int .i64 0, .int .i64 0, .int .i64 0, .int .i64 0, .int .i64 0, .int .i64 0, .int .i64 0, .int .i64 0, .int .i64 0, .int .i64 0, .int .i64 0, .slice none 0 0, .slice none 0 0] TG (0, 0)) from kg)
    clear kg bs0 hgb hz
    go_wp2_with fail
    refine (HOF.out _).mono ?_
    rintro e w5 ⟨⟨Da', ca', Db', cb', rfl, hla, hlb, hca, hcb, hfa, hfb⟩, hb5⟩
    have HZ6 := Lib.hid (BSA.out.get (.head _)).2.1
    have HW6 := Lib.hid BSA.out.below.size
    have BS5 := Lib.hid (BSA.out.on hb5)
    clear hb5 BSA
    obtain ⟨_, lz, kz⟩ := BS5.out.get (.head _)
    have s0 : w5.cell? ⟨z, 0, none⟩ = some (.slice none 0 0) := kz.cell 0
    have s1 : w5.cell? ⟨z, 1, none⟩ = some (.slice none 0 0) := kz.cell 1
    have f0 : w5.frozen? ⟨z, 0, none⟩ = false := kz.frozen 0
    have f1 : w5.frozen? ⟨z, 1, none⟩ = false := kz.frozen 1
    have HB7 := Lib.hid BS5.out.below
    clear kz
    obtain ⟨l1, hl1⟩ : ∃ l, l = L32 (qa) := ⟨_, rfl⟩
    obtain ⟨l2, hl2⟩ : ∃ l, l = L32 (qb) := ⟨_, rfl⟩
    rw [← hl1] at hla hca ⊢
    rw [← hl2] at hlb hcb ⊢
    have HL1 := Lib.hid hl1
    have HL2 := Lib.hid hl2
    have HCA := Lib.hid hca
    have HCB := Lib.hid hcb
    have HFA := Lib.hid hfa
    have HFB := Lib.hid hfb
    clear hl1 hl2 hca hcb hfa hfb
    unfold fv
    go_wp2
    refine bodyPost_ret (v := .tuple #[fv Da' l1 ca' Db' l2 cb', .int .i64 0]) (by unfold fv; simp [results, Try.results26, go_sem, s0, s1]) rfl ?_
    refine ⟨⟨Da', ca', Db', cb', by rw [← HL1.out, ← HL2.out], by rw [← HL1.out]; exact hla, by rw [← HL2.out]; exact hlb, ?_, ?_, HFA.out.mono HW6.out, HFB.out.mono HW6.out⟩, ?_⟩
    · rw [← HL1.out]
      exact (HCA.out.set_ HFA.out HZ6.out _ _).set_ HFA.out HZ6.out _ _
    · rw [← HL2.out]
      exact (HCB.out.set_ HFB.out HZ6.out _ _).set_ HFB.out HZ6.out _ _
    · exact bse (bse HB7.out hzw _ _) hzw _ _
set_option maxHeartbeats 4000000 in
set_option maxRecDepth 100000 in
theorem hits_none2 (w : World) {m o : Nat} {h : Int} (ho1 : 1 ≤ o) (ho : o ≤ 10) (hm : m ≤ 10) (hh : h < 0 ∨ 0 ≤ h ∧ (m : Int) < h) :
    Calls Try.prog 26 #[.agg (gc 2 m o), .int .i64 h] w fun e w' => Res w.heap.size w' e (0 / Nat.gcd 0 1) (1 / Nat.gcd 0 1) ∧ Below w.heap.size w w' := by
  have BS0 := Lib.hid (boxesG w (gc 2 m o))
  have HOF := Lib.hid fun w' => of_ok w' (x := 0) (y := 1) (by omega) (by omega) (by omega)
  obtain ⟨qa, hqa⟩ : ∃ v, v = 0 / Nat.gcd 0 1 := ⟨_, rfl⟩
  obtain ⟨qb, hqb⟩ : ∃ v, v = 1 / Nat.gcd 0 1 := ⟨_, rfl⟩
  rw [← hqa, ← hqb] at HOF ⊢
  clear hqa hqb
  unfold gc at BS0 ⊢
  rcases hh with h1 | ⟨h1, h2⟩
  all_goals
    go_enter Try.func26, Try.ntmps26
    go_upto_region 1 with (fail)
    obtain ⟨wa, hwa⟩ : ∃ wa, wa = ((w.alloc (.cells #[.string ⟨#[]⟩, .int .i64 2, .int .i64 0, .int .i64 (m : Int), .int .i64 (o : Int), .int .i64 0, .int .i64 0, .int .i64 0, .int .i64 0, .int .i64 0, .int .i64 0, .int .i64 0, .int .i64 0, .int .i64 0, .int .i64 0, .int .i64 0, .int .i64 0, .int .i64 0, .int .i64 0, .int .i64 0, .slice none 0 0, .slice none 0 0] TG)).alloc (.cells #[.slice none 0 0, .slice none 0 0] TF)) := ⟨_, rfl⟩
    change Code.wp _ _ _ _ ((w.alloc (.cells #[.string ⟨#[]⟩, .int .i64 2, .int .i64 0, .int .i64 (m : Int), .int .i64 (o : Int), .int .i64 0, .int .i64 0, .int .i64 0, .int .i64 0, .int .i64 0, .int .i64 0, .int .i64 0, .int .i64 0, .int .i64 0, .int .i64 0, .int .i64 0, .int .i64 0, .int .i64 0, .int .i64 0, .int .i64 0, .slice none 0 0, .slice none 0 0] TG)).alloc (.cells #[.slice none 0 0, .slice none 0 0] TF))
    rw [← hwa] at BS0 ⊢
    obtain ⟨gb, hgb⟩ : ∃ b, b = w.heap.size := ⟨_, rfl⟩
    obtain ⟨z, hz⟩ : ∃ b, b = w.heap.size + 1 := ⟨_, rfl⟩
    have hzw : w.heap.size ≤ z := by omega
    have bs0 := BS0.out
    rw [← hgb, ← show z = gb + 1 by omega] at bs0
    rw [show (Value.pointer (some ⟨w.heap.size, 0, none⟩)) = .pointer (some ⟨gb, 0, none⟩) by rw [hgb], show (Value.pointer (some ⟨w.heap.size + 1, 0, none⟩)) = .pointer (some ⟨z, 0, none⟩) by rw [hz]]
    have BSA := Lib.hid bs0
    clear hwa BS0
    obtain ⟨_, lg, kg⟩ := bs0.get (.tail _ (.head _))
    have q1 : wa.cell? ⟨gb, 1, none⟩ = some (.int .i64 2) := kg.cell 1
    have q3 : wa.cell? ⟨gb, 3, none⟩ = some (.int .i64 (m : Int)) := kg.cell 3
    have q4 : wa.cell? ⟨gb, 4, none⟩ = some (.int .i64 (o : Int)) := kg.cell 4
    have KG := Lib.hid (show wa.heap[gb]? = some (.cells #[.string ⟨#[]⟩, .int .i64 2, .int .i64 0, .int .i64 (m : Int), .int .i64 (o : Int), .int .i64 0, .int .i64 0, .int .i64 0, .int .i64 0, .int .i64 0, .int .i64 0, .int .i64 0, .int .i64 0, .int .i64 0, .int .i64 0, .int .i64 0, .int .i64 0, .int .i64 0, .int .i64 0, .int .i64 0, .slice none 0 0, .slice none 0 0] TG (0, 0)) from kg)
    clear kg bs0 hgb hz
    go_wp2_with fail
    refine (HOF.out _).mono ?_
    rintro e w5 ⟨⟨Da', ca', Db', cb', rfl, hla, hlb, hca, hcb, hfa, hfb⟩, hb5⟩
    have HZ6 := Lib.hid (BSA.out.get (.head _)).2.1
    have HW6 := Lib.hid BSA.out.below.size
    have BS5 := Lib.hid (BSA.out.on hb5)
    clear hb5 BSA
    obtain ⟨_, lz, kz⟩ := BS5.out.get (.head _)
    have s0 : w5.cell? ⟨z, 0, none⟩ = some (.slice none 0 0) := kz.cell 0
    have s1 : w5.cell? ⟨z, 1, none⟩ = some (.slice none 0 0) := kz.cell 1
    have f0 : w5.frozen? ⟨z, 0, none⟩ = false := kz.frozen 0
    have f1 : w5.frozen? ⟨z, 1, none⟩ = false := kz.frozen 1
    have HB7 := Lib.hid BS5.out.below
    clear kz
    obtain ⟨l1, hl1⟩ : ∃ l, l = L32 (qa) := ⟨_, rfl⟩
    obtain ⟨l2, hl2⟩ : ∃ l, l = L32 (qb) := ⟨_, rfl⟩
    rw [← hl1] at hla hca ⊢
    rw [← hl2] at hlb hcb ⊢
    have HL1 := Lib.hid hl1
    have HL2 := Lib.hid hl2
    have HCA := Lib.hid hca
    have HCB := Lib.hid hcb
    have HFA := Lib.hid hfa
    have HFB := Lib.hid hfb
    clear hl1 hl2 hca hcb hfa hfb
    unfold fv
    go_wp2
    refine bodyPost_ret (v := .tuple #[fv Da' l1 ca' Db' l2 cb', .int .i64 0]) (by unfold fv; simp [results, Try.results26, go_sem, s0, s1]) rfl ?_
    refine ⟨⟨Da', ca', Db', cb', by rw [← HL1.out, ← HL2.out], by rw [← HL1.out]; exact hla, by rw [← HL2.out]; exact hlb, ?_, ?_, HFA.out.mono HW6.out, HFB.out.mono HW6.out⟩, ?_⟩
    · rw [← HL1.out]
      exact (HCA.out.set_ HFA.out HZ6.out _ _).set_ HFA.out HZ6.out _ _
    · rw [← HL2.out]
      exact (HCB.out.set_ HFB.out HZ6.out _ _).set_ HFB.out HZ6.out _ _
    · exact bse (bse HB7.out hzw _ _) hzw _ _
set_option maxHeartbeats 4000000 in
set_option maxRecDepth 100000 in
theorem hits_digit (w : World) {m o h d x y : Nat} (ho1 : 1 ≤ o) (ho : o ≤ 10) (hm : m ≤ 10) (hh : h ≤ m) (hd : d = m - h) (hx : x = cz m h * (o - 1) ^ d) (hy : y = o ^ m) :
    Calls Try.prog 26 #[.agg (gc 2 m o), .int .i64 (h : Int)] w fun e w' => Res w.heap.size w' e (x / Nat.gcd x y) (y / Nat.gcd x y) ∧ Below w.heap.size w w' := by
  have BS0 := Lib.hid (boxesG w (gc 2 m o))
  have K := fun w' => digit_any w' (k := 2) ho1 ho hm hh hd hx hy
  have e1 : ((h : Int) < 0) = False := eq_false (by omega)
  have e2 : ((m : Int) < (h : Int)) = False := eq_false (by omega)
  obtain ⟨qa, hqa⟩ : ∃ v, v = x / Nat.gcd x y := ⟨_, rfl⟩
  obtain ⟨qb, hqb⟩ : ∃ v, v = y / Nat.gcd x y := ⟨_, rfl⟩
  rw [← hqa, ← hqb] at K ⊢
  clear hx hy hqa hqb hh hd
  unfold gc at BS0 K ⊢
  have HK := Lib.hid K
  clear K
  go_enter Try.func26, Try.ntmps26
  go_upto_region 1 with (fail)
  obtain ⟨wa, hwa⟩ : ∃ wa, wa = ((w.alloc (.cells #[.string ⟨#[]⟩, .int .i64 2, .int .i64 0, .int .i64 (m : Int), .int .i64 (o : Int), .int .i64 0, .int .i64 0, .int .i64 0, .int .i64 0, .int .i64 0, .int .i64 0, .int .i64 0, .int .i64 0, .int .i64 0, .int .i64 0, .int .i64 0, .int .i64 0, .int .i64 0, .int .i64 0, .int .i64 0, .slice none 0 0, .slice none 0 0] TG)).alloc (.cells #[.slice none 0 0, .slice none 0 0] TF)) := ⟨_, rfl⟩
  change Code.wp _ _ _ _ ((w.alloc (.cells #[.string ⟨#[]⟩, .int .i64 2, .int .i64 0, .int .i64 (m : Int), .int .i64 (o : Int), .int .i64 0, .int .i64 0, .int .i64 0, .int .i64 0, .int .i64 0, .int .i64 0, .int .i64 0, .int .i64 0, .int .i64 0, .int .i64 0, .int .i64 0, .int .i64 0, .int .i64 0, .int .i64 0, .int .i64 0, .slice none 0 0, .slice none 0 0] TG)).alloc (.cells #[.slice none 0 0, .slice none 0 0] TF))
  rw [← hwa] at BS0 ⊢
  obtain ⟨gb, hgb⟩ : ∃ b, b = w.heap.size := ⟨_, rfl⟩
  obtain ⟨z, hz⟩ : ∃ b, b = w.heap.size + 1 := ⟨_, rfl⟩
  have hzw : w.heap.size ≤ z := by omega
  have bs0 := BS0.out
  rw [← hgb, ← show z = gb + 1 by omega] at bs0
  rw [show (Value.pointer (some ⟨w.heap.size, 0, none⟩)) = .pointer (some ⟨gb, 0, none⟩) by rw [hgb], show (Value.pointer (some ⟨w.heap.size + 1, 0, none⟩)) = .pointer (some ⟨z, 0, none⟩) by rw [hz]]
  have BSA := Lib.hid bs0
  clear hwa BS0
  obtain ⟨_, lg, kg⟩ := bs0.get (.tail _ (.head _))
  have q1 : wa.cell? ⟨gb, 1, none⟩ = some (.int .i64 2) := kg.cell 1
  have q3 : wa.cell? ⟨gb, 3, none⟩ = some (.int .i64 (m : Int)) := kg.cell 3
  have q4 : wa.cell? ⟨gb, 4, none⟩ = some (.int .i64 (o : Int)) := kg.cell 4
  have KG := Lib.hid (show wa.heap[gb]? = some (.cells #[.string ⟨#[]⟩, .int .i64 2, .int .i64 0, .int .i64 (m : Int), .int .i64 (o : Int), .int .i64 0, .int .i64 0, .int .i64 0, .int .i64 0, .int .i64 0, .int .i64 0, .int .i64 0, .int .i64 0, .int .i64 0, .int .i64 0, .int .i64 0, .int .i64 0, .int .i64 0, .int .i64 0, .int .i64 0, .slice none 0 0, .slice none 0 0] TG (0, 0)) from kg)
  clear kg bs0 hgb hz
  go_upto_region 13 with (fail)
  go_wp2_with (refine wpList_load_row rfl TG _ rfl gb rfl TG _ (0, 0) _ KG.out Try.underlying50 rfl (by kernel_rfl) ?_)
  (with_reducible refine (HK.out _).mono ?_)
  rintro e w5 ⟨⟨Da', ca', Db', cb', rfl, hla, hlb, hca, hcb, hfa, hfb⟩, hb5⟩
  have HZ6 := Lib.hid (BSA.out.get (.head _)).2.1
  have HW6 := Lib.hid BSA.out.below.size
  have BS5 := Lib.hid (BSA.out.on hb5)
  clear hb5 BSA
  obtain ⟨_, lz, kz⟩ := BS5.out.get (.head _)
  have s0 : w5.cell? ⟨z, 0, none⟩ = some (.slice none 0 0) := kz.cell 0
  have s1 : w5.cell? ⟨z, 1, none⟩ = some (.slice none 0 0) := kz.cell 1
  have f0 : w5.frozen? ⟨z, 0, none⟩ = false := kz.frozen 0
  have f1 : w5.frozen? ⟨z, 1, none⟩ = false := kz.frozen 1
  have HB7 := Lib.hid BS5.out.below
  clear kz
  obtain ⟨l1, hl1⟩ : ∃ l, l = L32 (qa) := ⟨_, rfl⟩
  obtain ⟨l2, hl2⟩ : ∃ l, l = L32 (qb) := ⟨_, rfl⟩
  rw [← hl1] at hla hca ⊢
  rw [← hl2] at hlb hcb ⊢
  have HL1 := Lib.hid hl1
  have HL2 := Lib.hid hl2
  have HCA := Lib.hid hca
  have HCB := Lib.hid hcb
  have HFA := Lib.hid hfa
  have HFB := Lib.hid hfb
  clear hl1 hl2 hca hcb hfa hfb
  unfold fv
  go_wp2
  refine bodyPost_ret (v := .tuple #[fv Da' l1 ca' Db' l2 cb', .int .i64 0]) (by unfold fv; simp [results, Try.results26, go_sem, s0, s1]) rfl ?_
  refine ⟨⟨Da', ca', Db', cb', by rw [← HL1.out, ← HL2.out], by rw [← HL1.out]; exact hla, by rw [← HL2.out]; exact hlb, ?_, ?_, HFA.out.mono HW6.out, HFB.out.mono HW6.out⟩, ?_⟩
  · rw [← HL1.out]
    exact (HCA.out.set_ HFA.out HZ6.out _ _).set_ HFA.out HZ6.out _ _
  · rw [← HL2.out]
    exact (HCB.out.set_ HFB.out HZ6.out _ _).set_ HFB.out HZ6.out _ _
  · exact bse (bse HB7.out hzw _ _) hzw _ _
end Fa
end Go.Proofs.Ytiflmnmkmpjecaa
