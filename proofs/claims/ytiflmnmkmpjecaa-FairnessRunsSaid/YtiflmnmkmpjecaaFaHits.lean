/- The walks of fairness.chooseChance and HitsChance. -/
import Derived.Test.YtiflmnmkmpjecaaFaRuns
set_option linter.unusedVariables false
namespace Go.Proofs.Ytiflmnmkmpjecaa
open Go.RowKit
namespace Fa
open Fr
abbrev TG : TypeId := 50
/-- A game of which three fields are set. -/
def gc (k m o : Int) : Array Value := #[.string ⟨#[]⟩, .int .i64 k, .int .i64 0, .int .i64 m, .int .i64 o, .int .i64 0, .int .i64 0, .int .i64 0, .int .i64 0, .int .i64 0, .int .i64 0, .int .i64 0, .int .i64 0, .int .i64 0, .int .i64 0, .int .i64 0, .int .i64 0, .int .i64 0, .int .i64 0, .int .i64 0, .slice none 0 0, .slice none 0 0]
theorem boxesG (w : World) (cs : Array Value) : Bs w ((w.alloc (.cells cs TG)).alloc (.cells #[.slice none 0 0, .slice none 0 0] TF)) [(w.heap.size + 1, TF, #[.slice none 0 0, .slice none 0 0]), (w.heap.size, TG, cs)] := by
  have := ((Bs.nil w).alloc TG cs).alloc TF #[.slice none 0 0, .slice none 0 0]
  simp only [World.size_alloc] at this
  exact this
/-- The numerator of the chance of hits in a choose game. -/
def hc (m o : Nat) (h : Int) : Nat := cz m h * cz (o - m) ((m : Int) - h)
theorem hc_len {m o : Nat} (hm : m ≤ 80) (ho : o ≤ 80) (h : Int) : L32 (hc m o h) ≤ 34 := prod_len (cz_len hm h) (cz_len (by omega) _)
set_option maxHeartbeats 4000000 in
set_option maxRecDepth 100000 in
theorem chch_any (w : World) {m o x y : Nat} {k h : Int} (hm : m ≤ o) (ho : o ≤ 80) (hh0 : 0 ≤ h) (hh : h ≤ m) (hx : x = hc m o h) (hy : y = cb o m) :
    Calls Try.prog 64 #[.agg (gc k m o), .int .i64 h] w fun e w' => Res w.heap.size w' e (x / Nat.gcd x y) (y / Nat.gcd x y) ∧ Below w.heap.size w w' := by
  have BS0 := Lib.hid (boxesG w (gc k m o))
  have hw1 : IntKind.i64.wrap ((o : Int) - (m : Int)) = ((o - m : Nat) : Int) := by rw [IntWalk.i64_in _ (by omega)]; omega
  obtain ⟨q, hq⟩ : ∃ q, q = (m : Int) - h := ⟨_, rfl⟩
  have hw2 : IntKind.i64.wrap ((m : Int) - h) = q := by rw [IntWalk.i64_in _ (by omega), hq]
  have K1 := fun w' => choices_any w' (n := m) (m := o - m) (by omega) (by omega) h q
  have K2 := fun w' => choose_any w' (n := o) ho (m : Int)
  rw [show cz m h * cz (o - m) q = x by rw [hx, hq]; rfl] at K1
  rw [show cz o (m : Int) = y by unfold cz; rw [if_pos (by omega), hy]; rfl] at K2
  have HX := Lib.hid (show L32 x ≤ 64 by rw [hx]; exact Nat.le_trans (hc_len (by omega) ho h) (by omega))
  have HY := Lib.hid (show L32 y ≤ 64 by rw [hy]; exact Nat.le_trans (cb_len ho hm) (by omega))
  have HY0 := Lib.hid (show 0 < y by rw [hy]; exact cb_pos hm)
  obtain ⟨om, hom⟩ : ∃ q, q = o - m := ⟨_, rfl⟩
  rw [← hom] at hw1 K1
  have HK1 := Lib.hid K1
  have HK2 := Lib.hid K2
  obtain ⟨qa, hqa⟩ : ∃ v, v = x / Nat.gcd x y := ⟨_, rfl⟩
  obtain ⟨qb, hqb⟩ : ∃ v, v = y / Nat.gcd x y := ⟨_, rfl⟩
  rw [← hqa, ← hqb]
  have HQA := Lib.hid hqa
  have HQB := Lib.hid hqb
  clear K1 K2 hx hy hqa hqb hq hom hh hh0
  unfold gc at BS0 ⊢
  go_enter Try.func64, Try.ntmps64
  go_wp2_with fail
  (with_reducible refine (HK1.out _).mono ?_)
  rintro e w1 ⟨⟨D1, l1', c1, rfl, hl, hc, hf⟩, hb⟩
  have BQ := Lib.hid (BS0.out.on hb)
  have BS1 := Lib.hid (BQ.out.alloc TN #[.slice D1 l1' c1])
  have C1 := Lib.hid (hc.alloc (.cells #[.slice D1 l1' c1] TN))
  have L1 := Lib.hid hl
  clear hb hc hl hf BS0
  obtain ⟨_, lg, kg⟩ := BQ.out.get (.tail _ (.head _))
  have g3 : w1.cell? ⟨w.heap.size, 3, none⟩ = some (.int .i64 (m : Int)) := kg.cell 3
  have g4 : w1.cell? ⟨w.heap.size, 4, none⟩ = some (.int .i64 (o : Int)) := kg.cell 4
  clear kg
  go_wp2_with fail
  (with_reducible refine (HK2.out _).mono ?_)
  rintro e w2 ⟨⟨D2, l2', c2, rfl, hl, hc, hf⟩, hb⟩
  have BQ2 := Lib.hid (BS1.out.on hb)
  have BS2 := Lib.hid (BQ2.out.alloc TN #[.slice D2 l2' c2])
  have C1b := Lib.hid ((C1.out.below hb).alloc (.cells #[.slice D2 l2' c2] TN))
  have C2 := Lib.hid (hc.alloc (.cells #[.slice D2 l2' c2] TN))
  have L2 := Lib.hid hl
  clear hb hc hl hf BS1 g3 g4 lg BQ C1
  obtain ⟨_, lb, kb⟩ := BQ2.out.get (.head _)
  have q1 : w2.cell? ⟨w1.heap.size, 0, none⟩ = some (.slice D1 l1' c1) := kb.cell 0
  clear kb
  have ha64 : l1' ≤ 64 := by rw [L1.out]; exact HX.out
  have hb64 : l2' ≤ 64 := by rw [L2.out]; exact HY.out
  go_wp2_with fail
  refine (make_any (x := x) (y := y) ha64 hb64 L1.out L2.out C1b.out C2.out HY0.out).mono ?_
  rintro e w5 ⟨⟨Da', ca', Db', cb', rfl, hla, hlb, hca, hcb, hfa, hfb⟩, hb5⟩
  rw [← HQA.out] at hla hca ⊢
  rw [← HQB.out] at hlb hcb ⊢
  have HZ6 := Lib.hid (BS2.out.get (.tail _ (.tail _ (.head _)))).2.1
  have HW6 := Lib.hid BS2.out.below.size
  have BS5 := Lib.hid (BS2.out.on hb5)
  clear hb5 q1 lb BQ2 BS2
  obtain ⟨z, hz⟩ : ∃ z, z = w.heap.size + 1 := ⟨_, rfl⟩
  have hzw : w.heap.size ≤ z := by omega
  obtain ⟨_, lz, kz⟩ := BS5.out.get (.tail _ (.tail _ (.head _)))
  rw [← hz] at kz lz HZ6 ⊢
  have s0 : w5.cell? ⟨z, 0, none⟩ = some (.slice none 0 0) := kz.cell 0
  have s1 : w5.cell? ⟨z, 1, none⟩ = some (.slice none 0 0) := kz.cell 1
  have f0 : w5.frozen? ⟨z, 0, none⟩ = false := kz.frozen 0
  have f1 : w5.frozen? ⟨z, 1, none⟩ = false := kz.frozen 1
  have HB7 := Lib.hid BS5.out.below
  clear kz hz
  obtain ⟨l1, hl1⟩ : ∃ l, l = L32 (qa) := ⟨_, rfl⟩
  obtain ⟨l2, hl2⟩ : ∃ l, l = L32 (qb) := ⟨_, rfl⟩
  rw [← hl1] at hla hca ⊢
  rw [← hl2] at hlb hcb ⊢
  have HL1 := Lib.hid hl1
  have HL2 := Lib.hid hl2
  have HCA := Lib.hid hca
  have HCB := Lib.hid hcb
  have HFA := Lib.hid hfa
  have HFB := Lib.hid hfb
  clear hl1 hl2 hca hcb hfa hfb
  unfold fv
  go_wp2
  refine bodyPost_ret (v := .tuple #[fv Da' l1 ca' Db' l2 cb', .int .i64 0]) (by unfold fv; simp [results, Try.results64, go_sem, s0, s1]) rfl ?_
  refine ⟨⟨Da', ca', Db', cb', by rw [← HL1.out, ← HL2.out], by rw [← HL1.out]; exact hla, by rw [← HL2.out]; exact hlb, ?_, ?_, HFA.out.mono HW6.out, HFB.out.mono HW6.out⟩, ?_⟩
  · rw [← HL1.out]
    exact (HCA.out.set_ HFA.out HZ6.out _ _).set_ HFA.out HZ6.out _ _
  · rw [← HL2.out]
    exact (HCB.out.set_ HFB.out HZ6.out _ _).set_ HFB.out HZ6.out _ _
  · exact bse (bse HB7.out hzw _ _) hzw _ _
set_option maxHeartbeats 4000000 in
set_option maxRecDepth 100000 in
theorem hits_choose (w : World) {m o x y : Nat} {h : Int} (hm : m ≤ o) (ho : o ≤ 80) (hh0 : 0 ≤ h) (hh : h ≤ m) (hx : x = hc m o h) (hy : y = cb o m) :
    Calls Try.prog 26 #[.agg (gc 1 m o), .int .i64 h] w fun e w' => Res w.heap.size w' e (x / Nat.gcd x y) (y / Nat.gcd x y) ∧ Below w.heap.size w w' := by
  have BS0 := Lib.hid (boxesG w (gc 1 m o))
  have K := fun w' => chch_any w' (k := 1) hm ho hh0 hh hx hy
  obtain ⟨qa, hqa⟩ : ∃ v, v = x / Nat.gcd x y := ⟨_, rfl⟩
  obtain ⟨qb, hqb⟩ : ∃ v, v = y / Nat.gcd x y := ⟨_, rfl⟩
  rw [← hqa, ← hqb] at K ⊢
  clear hx hy hqa hqb
  unfold gc at BS0 K ⊢
  have HK := Lib.hid K
  clear K
  go_enter Try.func26, Try.ntmps26
  go_upto_region 1 with (fail)
  obtain ⟨wa, hwa⟩ : ∃ wa, wa = (w.alloc (.cells #[.string ⟨#[]⟩, .int .i64 1, .int .i64 0, .int .i64 (m : Int), .int .i64 (o : Int), .int .i64 0, .int .i64 0, .int .i64 0, .int .i64 0, .int .i64 0, .int .i64 0, .int .i64 0, .int .i64 0, .int .i64 0, .int .i64 0, .int .i64 0, .int .i64 0, .int .i64 0, .int .i64 0, .int .i64 0, .slice none 0 0, .slice none 0 0] TG)).alloc (.cells #[.slice none 0 0, .slice none 0 0] TF) := ⟨_, rfl⟩
  change Code.wp _ _ _ _ ((w.alloc (.cells #[.string ⟨#[]⟩, .int .i64 1, .int .i64 0, .int .i64 (m : Int), .int .i64 (o : Int), .int .i64 0, .int .i64 0, .int .i64 0, .int .i64 0, .int .i64 0, .int .i64 0, .int .i64 0, .int .i64 0, .int .i64 0, .int .i64 0, .int .i64 0, .int .i64 0, .int .i64 0, .int .i64 0, .int .i64 0, .slice none 0 0, .slice none 0 0] TG)).alloc (.cells #[.slice none 0 0, .slice none 0 0] TF))
  rw [← hwa] at BS0 ⊢
  obtain ⟨gb, hgb⟩ : ∃ b, b = w.heap.size := ⟨_, rfl⟩
  have bs0 := BS0.out
  rw [← hgb] at bs0
  rw [show (Value.pointer (some ⟨w.heap.size, 0, none⟩)) = .pointer (some ⟨gb, 0, none⟩) by rw [hgb]]
  clear hwa
  obtain ⟨_, lg, kg⟩ := bs0.get (.tail _ (.head _))
  have q1 : wa.cell? ⟨gb, 1, none⟩ = some (.int .i64 1) := kg.cell 1
  have q3 : wa.cell? ⟨gb, 3, none⟩ = some (.int .i64 (m : Int)) := kg.cell 3
  have q4 : wa.cell? ⟨gb, 4, none⟩ = some (.int .i64 (o : Int)) := kg.cell 4
  have KG := Lib.hid (show wa.heap[gb]? = some (.cells #[.string ⟨#[]⟩, .int .i64 1, .int .i64 0, .int .i64 (m : Int), .int .i64 (o : Int), .int .i64 0, .int .i64 0, .int .i64 0, .int .i64 0, .int .i64 0, .int .i64 0, .int .i64 0, .int .i64 0, .int .i64 0, .int .i64 0, .int .i64 0, .int .i64 0, .int .i64 0, .int .i64 0, .int .i64 0, .slice none 0 0, .slice none 0 0] TG (0, 0)) from kg)
  clear kg bs0 hgb
  go_upto_region 12 with (fail)
  go_wp2_with (refine wpList_load_row rfl TG _ rfl gb rfl TG _ (0, 0) _ KG.out Try.underlying50 rfl (by kernel_rfl) ?_)
  (with_reducible refine (HK.out _).mono ?_)
  rintro e w5 ⟨⟨Da', ca', Db', cb', rfl, hla, hlb, hca, hcb, hfa, hfb⟩, hb5⟩
  have HZ6 := Lib.hid (BS0.out.get (.head _)).2.1
  have HW6 := Lib.hid BS0.out.below.size
  have BS5 := Lib.hid (BS0.out.on hb5)
  clear hb5 BS0
  obtain ⟨z, hz⟩ : ∃ z, z = w.heap.size + 1 := ⟨_, rfl⟩
  have hzw : w.heap.size ≤ z := by omega
  obtain ⟨_, lz, kz⟩ := BS5.out.get (.head _)
  rw [← hz] at kz lz HZ6 ⊢
  have s0 : w5.cell? ⟨z, 0, none⟩ = some (.slice none 0 0) := kz.cell 0
  have s1 : w5.cell? ⟨z, 1, none⟩ = some (.slice none 0 0) := kz.cell 1
  have f0 : w5.frozen? ⟨z, 0, none⟩ = false := kz.frozen 0
  have f1 : w5.frozen? ⟨z, 1, none⟩ = false := kz.frozen 1
  have HB7 := Lib.hid BS5.out.below
  clear kz hz
  obtain ⟨l1, hl1⟩ : ∃ l, l = L32 (qa) := ⟨_, rfl⟩
  obtain ⟨l2, hl2⟩ : ∃ l, l = L32 (qb) := ⟨_, rfl⟩
  rw [← hl1] at hla hca ⊢
  rw [← hl2] at hlb hcb ⊢
  have HL1 := Lib.hid hl1
  have HL2 := Lib.hid hl2
  have HCA := Lib.hid hca
  have HCB := Lib.hid hcb
  have HFA := Lib.hid hfa
  have HFB := Lib.hid hfb
  clear hl1 hl2 hca hcb hfa hfb
  unfold fv
  go_wp2
  refine bodyPost_ret (v := .tuple #[fv Da' l1 ca' Db' l2 cb', .int .i64 0]) (by unfold fv; simp [results, Try.results26, go_sem, s0, s1]) rfl ?_
  refine ⟨⟨Da', ca', Db', cb', by rw [← HL1.out, ← HL2.out], by rw [← HL1.out]; exact hla, by rw [← HL2.out]; exact hlb, ?_, ?_, HFA.out.mono HW6.out, HFB.out.mono HW6.out⟩, ?_⟩
  · rw [← HL1.out]
    exact (HCA.out.set_ HFA.out HZ6.out _ _).set_ HFA.out HZ6.out _ _
  · rw [← HL2.out]
    exact (HCB.out.set_ HFB.out HZ6.out _ _).set_ HFB.out HZ6.out _ _
  · exact bse (bse HB7.out hzw _ _) hzw _ _
end Fa
end Go.Proofs.Ytiflmnmkmpjecaa
