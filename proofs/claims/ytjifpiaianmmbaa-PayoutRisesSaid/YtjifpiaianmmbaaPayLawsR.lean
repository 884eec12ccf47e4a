/- The walk of the law PayoutRises. -/
import Derived.Test.YtjifpiaianmmbaaPayLooks
import Derived.Test.YtjifpiaianmmbaaPayTrue
import Derived.Test.YtjifpiaianmmbaaPayFew
import Derived.Test.YtjifpiaianmmbaaPayLawsA
import Derived.Test.YtjifpiaianmmbaaPayLawsE
set_option linter.unusedVariables false
namespace Go.Proofs.Ytjifpiaianmmbaa
open Go.RowKit

theorem perr_same {n : Nat} {F R : Nat → Int} {m : Nat} {C : Nat → ByteArray} {K A : Nat → Int} {g g' : Int} (h : 0 ≤ g ∧ g ≤ 1000000000000) (h' : 0 ≤ g' ∧ g' ≤ 1000000000000) : perr n F R m C K A g' = perr n F R m C K A g := by
  unfold perr; rw [if_pos h, if_pos h']
set_option maxHeartbeats 4000000 in
set_option maxRecDepth 100000 in
theorem payoutRises_walk (W : World) {B : Option Addr} {n c : Nat} {F R : Nat → Int} (hn : n ≤ c) (hc : c ≤ maxLen) (hB : Cells W B (n * 2) (Two F R)) (hwB : ∀ i, i < n → (Lit.int .i64 (F i)).wf = true ∧ (Lit.int .i64 (R i)).wf = true)
    {D : Option Addr} {m0 c0 : Nat} {C0 : Nat → ByteArray} {K A : Nat → Int} (hm0 : m0 ≤ c0) (hc0 : c0 ≤ maxLen) (hD : Cells W D (m0 * 3) (Three C0 K A)) (hC0 : ∀ i, i < m0 → (C0 i).size ≤ maxLen) (hwD : ∀ i, i < m0 → (Lit.int .i64 (K i)).wf = true ∧ (Lit.int .i64 (A i)).wf = true)
    {p q : Int} (hp : 0 ≤ p ∧ p ≤ 4294967295) (hq : 0 ≤ q ∧ q ≤ 4294967295) :
    Calls Try.prog 4 #[.slice B n c, .slice D m0 c0, .agg #[.int .u32 p, .int .u32 q]] W fun e w' => e = .returned (.bool true) ∧ Below W.heap.size W w' := by
  unfold maxLen at hc hc0
  clear hwB hwD
  obtain ⟨g, hg⟩ : ∃ g : Int, (if q < p then q else p) = g := ⟨_, rfl⟩
  obtain ⟨g', hg'⟩ : ∃ g' : Int, (if q > p then q else p) = g' := ⟨_, rfl⟩
  have hmin : ∀ w, (Builtin.min_ #[34, 34] 34 #[.int .u32 p, .int .u32 q]).run Try.prog w = .ok (.int .u32 g) w := fun w => by rw [run_min_int2, hg]
  have hmax : ∀ w, (Builtin.max_ #[34, 34] 34 #[.int .u32 p, .int .u32 q]).run Try.prog w = .ok (.int .u32 g') w := fun w => by rw [run_max_int2, hg']
  have hgb : 0 ≤ g ∧ g ≤ 4294967295 ∧ 0 ≤ g' ∧ g' ≤ 4294967295 ∧ g ≤ g' := by
    rw [← hg, ← hg']; split <;> split <;> omega
  obtain ⟨g0, g1, g0', g1', hgg⟩ := hgb
  clear hg hg' hp hq
  have hBX0 := Lib.hid (Blk.new W 35 #[.int .u32 p, .int .u32 q])
  have hb00 := Lib.hid ((Below.refl W.heap.size W).alloc (Nat.le_refl _) (.cells #[.int .u32 p, .int .u32 q] 35))
  have hD0 := Lib.hid (hD.below hb00.out)
  by_cases h12 : 12 < n
  · have h12i : (12 : Int) < (n : Int) := by omega
    have h12c : (12 : Int) ≤ (c : Int) := by omega
    go_enter Try.func4, Try.ntmps4
    go_upto_region 1 with (fail)
    generalize W.alloc (.cells #[.int .u32 p, .int .u32 q] 35) = W0 at hBX0 hb00 hD0 ⊢
    go_region_held3 (fun _ => True) (trivial) ((go_at_call 9; refine (few_any (w := W0.drew) (by omega) (fun hm => hD0.out hm) hC0).mono ?_; rintro e w1 ⟨D1, c1, m, rfl, hm, k1, hb1⟩; have hmm : m ≤ 20 := (by omega); clear hm))
    all_goals
      have hb : Below W0.heap.size W0 w1 := ⟨hb1.os, hb1.tape, hb1.output, hb1.size, hb1.block⟩
      have HP := Lib.hid (hBX0.out.keep hb)
      replace hb := Below.on hb00.out hb
      clear hb1
      obtain ⟨y, hy⟩ : ∃ y, y = perr 12 F R m (fun i => cut40 (C0 i)) K A g := ⟨_, rfl⟩
      have hy' : y = perr 12 F R m (fun i => cut40 (C0 i)) K A g' := by rw [hy]; exact (perr_same ⟨by omega, by omega⟩ ⟨by omega, by omega⟩).symm
      have p0 : w1.cell? ⟨W.heap.size, 0, none⟩ = some (.int .u32 p) := HP.out.cell 0
      have p1 : w1.cell? ⟨W.heap.size, 1, none⟩ = some (.int .u32 q) := HP.out.cell 1
      by_cases hy0 : y = 0
      · subst hy0
        obtain ⟨_, g2, he, hck⟩ := perr_zero hy.symm
        obtain ⟨_, g2', he', _⟩ := perr_zero hy'.symm
        have hbd := Tx.bounds_of he
        have hbd' := Tx.bounds_of he'
        have hmo := Tx.mono_of he he' hgg
        obtain ⟨t, ht⟩ : ∃ t, Tx.val 12 F R g = t := ⟨_, rfl⟩
        obtain ⟨t', ht'⟩ : ∃ t, Tx.val 12 F R g' = t := ⟨_, rfl⟩
        rw [ht] at hbd hmo
        rw [ht'] at hbd' hmo
        obtain ⟨t0, t1, _⟩ := hbd
        obtain ⟨t0', t1', _⟩ := hbd'
        have hdd : g - t ≤ g' - t' := by omega
        have hAm : ∀ i, i < m → 1 ≤ A i := fun i hi => (Db.ok_in hck hi).2.2.1
        have hlb := Db.left_bounds (A := A) (a := g - t) (n := m) (by omega) hAm m (Nat.le_refl _)
        have hlb' := Db.left_bounds (A := A) (a := g' - t') (n := m) (by omega) hAm m (Nat.le_refl _)
        have hlm := Db.left_mono (A := A) hdd m
        obtain ⟨l, hl⟩ : ∃ l, l = Db.left A (g - t) m := ⟨_, rfl⟩
        obtain ⟨l', hl'⟩ : ∃ l, l = Db.left A (g' - t') m := ⟨_, rfl⟩
        rw [← hl] at hlb hlm
        rw [← hl'] at hlb' hlm
        have HGM := Lib.hid (fun k => Db.get_mono (A := A) hdd k)
        have HGB := Lib.hid (fun k (hk : k < m) => Db.get_bounds (A := A) (a := g - t) (n := m) (by omega) hAm hk)
        have HGB' := Lib.hid (fun k (hk : k < m) => Db.get_bounds (A := A) (a := g' - t') (n := m) (by omega) hAm hk)
        have HE := Lib.hid he
        have HE' := Lib.hid he'
        have HCK := Lib.hid hck
        have HT := Lib.hid ht
        have HT' := Lib.hid ht'
        have HL := Lib.hid hl
        have HL' := Lib.hid hl'
        clear hy hy' he he' hck ht ht' hl hl' hAm
        go_wp2_with fail
        refine (pay_good (by omega) (by omega) ((hB.sub (by omega)).below hb) k1 (fun i _ => cut40_size _) g0 (by omega) HT.out HE.out HCK.out t0 t1).mono ?_
        rintro e w2 ⟨D2, c2, rfl, k2, hb2, _⟩
        rw [← HL.out]
        unfold order
        have HK1 := Lib.hid ((k1.below hb2).alloc (.cells #[.int .i64 g, .int .i64 t, .slice D2 m c2, .int .i64 l] 27))
        have HK2 := Lib.hid (k2.alloc (.cells #[.int .i64 g, .int .i64 t, .slice D2 m c2, .int .i64 l] 27))
        have HB := Lib.hid ((Below.on hb hb2).alloc (Below.on hb hb2).size (.cells #[.int .i64 g, .int .i64 t, .slice D2 m c2, .int .i64 l] 27))
        have HBX := Lib.hid (orderBox w2 g t l (.slice D2 m c2))
        replace HP := Lib.hid ((HP.out.keep hb2).alloc (.cells #[.int .i64 g, .int .i64 t, .slice D2 m c2, .int .i64 l] 27))
        clear hb2 k1 k2 hb p0 p1
        go_upto_region 3 with (fail)
        generalize w2.alloc (.cells #[.int .i64 g, .int .i64 t, .slice D2 m c2, .int .i64 l] 27) = W2 at HK1 HK2 HB HBX HP ⊢
        have p0 : W2.cell? ⟨W.heap.size, 0, none⟩ = some (.int .u32 p) := HP.out.cell 0
        have p1 : W2.cell? ⟨W.heap.size, 1, none⟩ = some (.int .u32 q) := HP.out.cell 1
        go_wp2_with fail
        refine (pay_good (by omega) (by omega) ((hB.sub (by omega)).below HB.out) HK1.out (fun i _ => cut40_size _) g0' (by omega) HT'.out HE'.out HCK.out t0' t1').mono ?_
        rintro e w3 ⟨D3, c3, rfl, k3, hb3, _⟩
        rw [← HL'.out]
        unfold order
        replace HK2 := Lib.hid ((HK2.out.below hb3).alloc (.cells #[.int .i64 g', .int .i64 t', .slice D3 m c3, .int .i64 l'] 27))
        have HK3 := Lib.hid (k3.alloc (.cells #[.int .i64 g', .int .i64 t', .slice D3 m c3, .int .i64 l'] 27))
        replace HB := Lib.hid ((Below.on HB.out hb3).alloc (Below.on HB.out hb3).size (.cells #[.int .i64 g', .int .i64 t', .slice D3 m c3, .int .i64 l'] 27))
        replace HBX := Lib.hid ((HBX.out.on hb3).on ((Below.refl _ _).alloc (Nat.le_refl _) (.cells #[.int .i64 g', .int .i64 t', .slice D3 m c3, .int .i64 l'] 27)))
        have HBY := Lib.hid (orderBox w3 g' t' l' (.slice D3 m c3))
        clear hb3 k3 p0 p1 HP HK1
        go_upto_region 4 with (fail)
        generalize w3.alloc (.cells #[.int .i64 g', .int .i64 t', .slice D3 m c3, .int .i64 l'] 27) = W3 at HK2 HK3 HB HBX HBY ⊢
        obtain ⟨q0, q1, q2, q3, _⟩ := HBX.out.all
        obtain ⟨r0, r1, r2, r3, _⟩ := HBY.out.all
        have hms : (m : Int) ≤ 20 := by omega
        go_wp2
        go_loopw [59] (fun si wr => ∃ k : Nat, k ≤ m ∧ si = .int .i64 (k : Int) ∧ Hid (Below W3.heap.size W3 wr)) (fun si _ => m - (intOf si).toNat)
        case atStart => exact ⟨0, Nat.zero_le _, rfl, Lib.hid (Below.refl _ _)⟩
        case round =>
          obtain ⟨k, hk, rfl, HBR⟩ := hrel
          clear q0 q1 q2 q3 r0 r1 r2 r3
          obtain ⟨q0, q1, q2, q3, _⟩ := (HBX.out.on HBR.out).all
          obtain ⟨r0, r1, r2, r3, _⟩ := (HBY.out.on HBR.out).all
          by_cases hkm : k < m
          · obtain ⟨b2, o2, rfl, hlt2, hc2⟩ := (HK2.out.below HBR.out).one hkm
            obtain ⟨b3, o3, rfl, hlt3, hc3⟩ := (HK3.out.below HBR.out).one hkm
            have hgm := HGM.out k
            obtain ⟨o, ho⟩ : ∃ o, o = Db.get A (g - t) k := ⟨_, rfl⟩
            obtain ⟨o', ho'⟩ : ∃ o, o = Db.get A (g' - t') k := ⟨_, rfl⟩
            rw [← ho] at hgm hc2
            rw [← ho'] at hgm hc3
            have d1 : decide (o' < o) = false := decide_eq_false (by omega)
            have hk0 : (0 : Int) ≤ (k : Int) := by omega
            have hki : (k : Int) < (m : Int) := by omega
            clear ho ho' hgm
            go_wp2
            go_quiet (fail)
            go_wp2
            go_roundw
            case rel => exact ⟨k + 1, by omega, by go_num, Lib.hid (below_drewN HBR.out _)⟩
            case measure => simp [intOf]; omega
          · obtain rfl : k = m := by omega
            clear hkm
            go_wp2_with fail
            refine (works47 _).mono ?_
            rintro e w9 ⟨rfl, hb9⟩
            have hbe := Below.on (Below.on HB.out HBR.out) hb9
            clear hb9 q0 q1 q2 q3 r0 r1 r2 r3
            go_wp2
            go_ret
            exact ⟨rfl, hbe⟩
      · have Hy := Lib.hid hy
        have Hy' := Lib.hid hy'
        clear hy hy'
        go_wp2_with fail
        refine (pay_bad (by omega) (by omega) ((hB.sub (by omega)).below hb) k1 (fun i _ => cut40_size _) Hy.out.symm hy0).mono ?_
        rintro e w2 ⟨rfl, hb2⟩
        unfold order
        have HK1 := Lib.hid ((k1.below hb2).alloc (.cells #[.int .i64 0, .int .i64 0, .slice none 0 0, .int .i64 0] 27))
        have HB := Lib.hid ((Below.on hb hb2).alloc (Below.on hb hb2).size (.cells #[.int .i64 0, .int .i64 0, .slice none 0 0, .int .i64 0] 27))
        replace HP := Lib.hid ((HP.out.keep hb2).alloc (.cells #[.int .i64 0, .int .i64 0, .slice none 0 0, .int .i64 0] 27))
        clear hb2 hb k1 p0 p1
        go_upto_region 3 with (fail)
        generalize w2.alloc (.cells #[.int .i64 0, .int .i64 0, .slice none 0 0, .int .i64 0] 27) = W2 at HK1 HB HP ⊢
        have p0 : W2.cell? ⟨W.heap.size, 0, none⟩ = some (.int .u32 p) := HP.out.cell 0
        have p1 : W2.cell? ⟨W.heap.size, 1, none⟩ = some (.int .u32 q) := HP.out.cell 1
        go_wp2_with fail
        refine (pay_bad (by omega) (by omega) ((hB.sub (by omega)).below HB.out) HK1.out (fun i _ => cut40_size _) Hy'.out.symm hy0).mono ?_
        rintro e w3 ⟨rfl, hb3⟩
        unfold order
        replace HB := Lib.hid ((Below.on HB.out hb3).alloc (Below.on HB.out hb3).size (.cells #[.int .i64 0, .int .i64 0, .slice none 0 0, .int .i64 0] 27))
        clear hb3 p0 p1 HP HK1
        go_wp2_with fail
        refine (works47 _).mono ?_
        rintro e w9 ⟨rfl, hb9⟩
        have hbe := Below.on HB.out hb9
        clear hb9
        go_wp2
        go_ret
        exact ⟨rfl, hbe⟩
  · have hni : (n : Int) ≤ (c : Int) := by omega
    have hnz : (0 : Int) ≤ (n : Int) := by omega
    have h12i : ((12 : Int) < (n : Int)) = False := eq_false (by omega)
    go_enter Try.func4, Try.ntmps4
    go_upto_region 1 with (fail)
    generalize W.alloc (.cells #[.int .u32 p, .int .u32 q] 35) = W0 at hBX0 hb00 hD0 ⊢
    go_region_held3 (fun _ => True) (trivial) ((go_at_call 9; refine (few_any (w := W0.drew) (by omega) (fun hm => hD0.out hm) hC0).mono ?_; rintro e w1 ⟨D1, c1, m, rfl, hm, k1, hb1⟩; have hmm : m ≤ 20 := (by omega); clear hm))
    all_goals
      have hb : Below W0.heap.size W0 w1 := ⟨hb1.os, hb1.tape, hb1.output, hb1.size, hb1.block⟩
      have HP := Lib.hid (hBX0.out.keep hb)
      replace hb := Below.on hb00.out hb
      clear hb1
      obtain ⟨y, hy⟩ : ∃ y, y = perr n F R m (fun i => cut40 (C0 i)) K A g := ⟨_, rfl⟩
      have hy' : y = perr n F R m (fun i => cut40 (C0 i)) K A g' := by rw [hy]; exact (perr_same ⟨by omega, by omega⟩ ⟨by omega, by omega⟩).symm
      have p0 : w1.cell? ⟨W.heap.size, 0, none⟩ = some (.int .u32 p) := HP.out.cell 0
      have p1 : w1.cell? ⟨W.heap.size, 1, none⟩ = some (.int .u32 q) := HP.out.cell 1
      by_cases hy0 : y = 0
      · subst hy0
        obtain ⟨_, g2, he, hck⟩ := perr_zero hy.symm
        obtain ⟨_, g2', he', _⟩ := perr_zero hy'.symm
        have hbd := Tx.bounds_of he
        have hbd' := Tx.bounds_of he'
        have hmo := Tx.mono_of he he' hgg
        obtain ⟨t, ht⟩ : ∃ t, Tx.val n F R g = t := ⟨_, rfl⟩
        obtain ⟨t', ht'⟩ : ∃ t, Tx.val n F R g' = t := ⟨_, rfl⟩
        rw [ht] at hbd hmo
        rw [ht'] at hbd' hmo
        obtain ⟨t0, t1, _⟩ := hbd
        obtain ⟨t0', t1', _⟩ := hbd'
        have hdd : g - t ≤ g' - t' := by omega
        have hAm : ∀ i, i < m → 1 ≤ A i := fun i hi => (Db.ok_in hck hi).2.2.1
        have hlb := Db.left_bounds (A := A) (a := g - t) (n := m) (by omega) hAm m (Nat.le_refl _)
        have hlb' := Db.left_bounds (A := A) (a := g' - t') (n := m) (by omega) hAm m (Nat.le_refl _)
        have hlm := Db.left_mono (A := A) hdd m
        obtain ⟨l, hl⟩ : ∃ l, l = Db.left A (g - t) m := ⟨_, rfl⟩
        obtain ⟨l', hl'⟩ : ∃ l, l = Db.left A (g' - t') m := ⟨_, rfl⟩
        rw [← hl] at hlb hlm
        rw [← hl'] at hlb' hlm
        have HGM := Lib.hid (fun k => Db.get_mono (A := A) hdd k)
        have HGB := Lib.hid (fun k (hk : k < m) => Db.get_bounds (A := A) (a := g - t) (n := m) (by omega) hAm hk)
        have HGB' := Lib.hid (fun k (hk : k < m) => Db.get_bounds (A := A) (a := g' - t') (n := m) (by omega) hAm hk)
        have HE := Lib.hid he
        have HE' := Lib.hid he'
        have HCK := Lib.hid hck
        have HT := Lib.hid ht
        have HT' := Lib.hid ht'
        have HL := Lib.hid hl
        have HL' := Lib.hid hl'
        clear hy hy' he he' hck ht ht' hl hl' hAm
        go_wp2_with fail
        refine (pay_good (by omega) (by omega) ((hB.sub (by omega)).below hb) k1 (fun i _ => cut40_size _) g0 (by omega) HT.out HE.out HCK.out t0 t1).mono ?_
        rintro e w2 ⟨D2, c2, rfl, k2, hb2, _⟩
        rw [← HL.out]
        unfold order
        have HK1 := Lib.hid ((k1.below hb2).alloc (.cells #[.int .i64 g, .int .i64 t, .slice D2 m c2, .int .i64 l] 27))
        have HK2 := Lib.hid (k2.alloc (.cells #[.int .i64 g, .int .i64 t, .slice D2 m c2, .int .i64 l] 27))
        have HB := Lib.hid ((Below.on hb hb2).alloc (Below.on hb hb2).size (.cells #[.int .i64 g, .int .i64 t, .slice D2 m c2, .int .i64 l] 27))
        have HBX := Lib.hid (orderBox w2 g t l (.slice D2 m c2))
        replace HP := Lib.hid ((HP.out.keep hb2).alloc (.cells #[.int .i64 g, .int .i64 t, .slice D2 m c2, .int .i64 l] 27))
        clear hb2 k1 k2 hb p0 p1
        go_upto_region 3 with (fail)
        generalize w2.alloc (.cells #[.int .i64 g, .int .i64 t, .slice D2 m c2, .int .i64 l] 27) = W2 at HK1 HK2 HB HBX HP ⊢
        have p0 : W2.cell? ⟨W.heap.size, 0, none⟩ = some (.int .u32 p) := HP.out.cell 0
        have p1 : W2.cell? ⟨W.heap.size, 1, none⟩ = some (.int .u32 q) := HP.out.cell 1
        go_wp2_with fail
        refine (pay_good (by omega) (by omega) ((hB.sub (by omega)).below HB.out) HK1.out (fun i _ => cut40_size _) g0' (by omega) HT'.out HE'.out HCK.out t0' t1').mono ?_
        rintro e w3 ⟨D3, c3, rfl, k3, hb3, _⟩
        rw [← HL'.out]
        unfold order
        replace HK2 := Lib.hid ((HK2.out.below hb3).alloc (.cells #[.int .i64 g', .int .i64 t', .slice D3 m c3, .int .i64 l'] 27))
        have HK3 := Lib.hid (k3.alloc (.cells #[.int .i64 g', .int .i64 t', .slice D3 m c3, .int .i64 l'] 27))
        replace HB := Lib.hid ((Below.on HB.out hb3).alloc (Below.on HB.out hb3).size (.cells #[.int .i64 g', .int .i64 t', .slice D3 m c3, .int .i64 l'] 27))
        replace HBX := Lib.hid ((HBX.out.on hb3).on ((Below.refl _ _).alloc (Nat.le_refl _) (.cells #[.int .i64 g', .int .i64 t', .slice D3 m c3, .int .i64 l'] 27)))
        have HBY := Lib.hid (orderBox w3 g' t' l' (.slice D3 m c3))
        clear hb3 k3 p0 p1 HP HK1
        go_upto_region 4 with (fail)
        generalize w3.alloc (.cells #[.int .i64 g', .int .i64 t', .slice D3 m c3, .int .i64 l'] 27) = W3 at HK2 HK3 HB HBX HBY ⊢
        obtain ⟨q0, q1, q2, q3, _⟩ := HBX.out.all
        obtain ⟨r0, r1, r2, r3, _⟩ := HBY.out.all
        have hms : (m : Int) ≤ 20 := by omega
        go_wp2
        go_loopw [59] (fun si wr => ∃ k : Nat, k ≤ m ∧ si = .int .i64 (k : Int) ∧ Hid (Below W3.heap.size W3 wr)) (fun si _ => m - (intOf si).toNat)
        case atStart => exact ⟨0, Nat.zero_le _, rfl, Lib.hid (Below.refl _ _)⟩
        case round =>
          obtain ⟨k, hk, rfl, HBR⟩ := hrel
          clear q0 q1 q2 q3 r0 r1 r2 r3
          obtain ⟨q0, q1, q2, q3, _⟩ := (HBX.out.on HBR.out).all
          obtain ⟨r0, r1, r2, r3, _⟩ := (HBY.out.on HBR.out).all
          by_cases hkm : k < m
          · obtain ⟨b2, o2, rfl, hlt2, hc2⟩ := (HK2.out.below HBR.out).one hkm
            obtain ⟨b3, o3, rfl, hlt3, hc3⟩ := (HK3.out.below HBR.out).one hkm
            have hgm := HGM.out k
            obtain ⟨o, ho⟩ : ∃ o, o = Db.get A (g - t) k := ⟨_, rfl⟩
            obtain ⟨o', ho'⟩ : ∃ o, o = Db.get A (g' - t') k := ⟨_, rfl⟩
            rw [← ho] at hgm hc2
            rw [← ho'] at hgm hc3
            have d1 : decide (o' < o) = false := decide_eq_false (by omega)
            have hk0 : (0 : Int) ≤ (k : Int) := by omega
            have hki : (k : Int) < (m : Int) := by omega
            clear ho ho' hgm
            go_wp2
            go_quiet (fail)
            go_wp2
            go_roundw
            case rel => exact ⟨k + 1, by omega, by go_num, Lib.hid (below_drewN HBR.out _)⟩
            case measure => simp [intOf]; omega
          · obtain rfl : k = m := by omega
            clear hkm
            go_wp2_with fail
            refine (works47 _).mono ?_
            rintro e w9 ⟨rfl, hb9⟩
            have hbe := Below.on (Below.on HB.out HBR.out) hb9
            clear hb9 q0 q1 q2 q3 r0 r1 r2 r3
            go_wp2
            go_ret
            exact ⟨rfl, hbe⟩
      · have Hy := Lib.hid hy
        have Hy' := Lib.hid hy'
        clear hy hy'
        go_wp2_with fail
        refine (pay_bad (by omega) (by omega) ((hB.sub (by omega)).below hb) k1 (fun i _ => cut40_size _) Hy.out.symm hy0).mono ?_
        rintro e w2 ⟨rfl, hb2⟩
        unfold order
        have HK1 := Lib.hid ((k1.below hb2).alloc (.cells #[.int .i64 0, .int .i64 0, .slice none 0 0, .int .i64 0] 27))
        have HB := Lib.hid ((Below.on hb hb2).alloc (Below.on hb hb2).size (.cells #[.int .i64 0, .int .i64 0, .slice none 0 0, .int .i64 0] 27))
        replace HP := Lib.hid ((HP.out.keep hb2).alloc (.cells #[.int .i64 0, .int .i64 0, .slice none 0 0, .int .i64 0] 27))
        clear hb2 hb k1 p0 p1
        go_upto_region 3 with (fail)
        generalize w2.alloc (.cells #[.int .i64 0, .int .i64 0, .slice none 0 0, .int .i64 0] 27) = W2 at HK1 HB HP ⊢
        have p0 : W2.cell? ⟨W.heap.size, 0, none⟩ = some (.int .u32 p) := HP.out.cell 0
        have p1 : W2.cell? ⟨W.heap.size, 1, none⟩ = some (.int .u32 q) := HP.out.cell 1
        go_wp2_with fail
        refine (pay_bad (by omega) (by omega) ((hB.sub (by omega)).below HB.out) HK1.out (fun i _ => cut40_size _) Hy'.out.symm hy0).mono ?_
        rintro e w3 ⟨rfl, hb3⟩
        unfold order
        replace HB := Lib.hid ((Below.on HB.out hb3).alloc (Below.on HB.out hb3).size (.cells #[.int .i64 0, .int .i64 0, .slice none 0 0, .int .i64 0] 27))
        clear hb3 p0 p1 HP HK1
        go_wp2_with fail
        refine (works47 _).mono ?_
        rintro e w9 ⟨rfl, hb9⟩
        have hbe := Below.on HB.out hb9
        clear hb9
        go_wp2
        go_ret
        exact ⟨rfl, hbe⟩
end Go.Proofs.Ytjifpiaianmmbaa
