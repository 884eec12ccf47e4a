/- The walk of the law PayoutExact. -/
import Derived.Test.YtjifpiaianmmbaaPayLooks
import Derived.Test.YtjifpiaianmmbaaPayTrue
import Derived.Test.YtjifpiaianmmbaaPayFew
import Derived.Test.YtjifpiaianmmbaaPayLawsA
import Derived.Test.YtjifpiaianmmbaaBox
import Derived.Deep.DeepCutAuto
set_option linter.unusedVariables false
namespace Go.Proofs.Ytjifpiaianmmbaa
open Go.RowKit

theorem orderBox (w : World) (g t l : Int) (s : Value) : Box w (w.alloc (.cells #[.int .i64 g, .int .i64 t, s, .int .i64 l] 27)) g t s l := by
  refine ⟨⟨(Below.refl w.heap.size w).alloc (Nat.le_refl _) _, by simp⟩, ?_, ?_, ?_, ?_⟩
  all_goals (rw [World.cell?_alloc_at _ _ _ _ rfl]; rfl)
set_option maxHeartbeats 4000000 in
set_option maxRecDepth 100000 in
theorem payoutExact_walk (W : World) {B : Option Addr} {n c : Nat} {F R : Nat → Int} (hn : n ≤ c) (hc : c ≤ maxLen) (hB : Cells W B (n * 2) (Two F R)) (hwB : ∀ i, i < n → (Lit.int .i64 (F i)).wf = true ∧ (Lit.int .i64 (R i)).wf = true)
    {D : Option Addr} {m0 c0 : Nat} {C0 : Nat → ByteArray} {K A : Nat → Int} (hm0 : m0 ≤ c0) (hc0 : c0 ≤ maxLen) (hD : Cells W D (m0 * 3) (Three C0 K A)) (hC0 : ∀ i, i < m0 → (C0 i).size ≤ maxLen) (hwD : ∀ i, i < m0 → (Lit.int .i64 (K i)).wf = true ∧ (Lit.int .i64 (A i)).wf = true) (g : Int) (wg : (Lit.int .i64 g).wf = true) :
    Calls Try.prog 6 #[.slice B n c, .slice D m0 c0, .int .i64 g] W fun e w' => e = .returned (.bool true) ∧ Below W.heap.size W w' := by
  unfold maxLen at hc hc0
  clear hwB hwD wg
  by_cases h12 : 12 < n
  · have h12i : (12 : Int) < (n : Int) := by omega
    have h12c : (12 : Int) ≤ (c : Int) := by omega
    go_enter Try.func6, Try.ntmps6
    go_wp2_with fail
    go_region_held3 (fun _ => True) (trivial) ((go_at_call 9; refine (few_any (w := W.drew) (by omega) (fun hm => hD hm) hC0).mono ?_; rintro e w1 ⟨D1, c1, m, rfl, hm, k1, hb1⟩; have hmm : m ≤ 20 := (by omega); clear hm))
    all_goals
      have hb : Below W.heap.size W w1 := ⟨hb1.os, hb1.tape, hb1.output, hb1.size, hb1.block⟩
      clear hb1
      obtain ⟨y, hy⟩ : ∃ y, y = perr 12 F R m (fun i => cut40 (C0 i)) K A g := ⟨_, rfl⟩
      by_cases hy0 : y = 0
      · subst hy0
        obtain ⟨g0, g1, he, hck⟩ := perr_zero hy.symm
        have hbd := Tx.bounds_of he
        obtain ⟨t, ht⟩ : ∃ t, Tx.val 12 F R g = t := ⟨_, rfl⟩
        rw [ht] at hbd
        obtain ⟨t0, t1, _⟩ := hbd
        have hex := Ex.exact_pay hck g0 g1 t0 t1
        obtain ⟨l, hl⟩ : ∃ l, l = Db.left A (g - t) m := ⟨_, rfl⟩
        rw [← hl] at hex
        have HEX := Lib.hid hex
        have HE := Lib.hid he
        have HCK := Lib.hid hck
        have HT := Lib.hid ht
        have HL := Lib.hid hl
        have HLB := Lib.hid (fun k (hk : k ≤ m) => Db.left_bounds (A := A) (a := g - t) (n := m) (by omega) (fun i hi => (Db.ok_in HCK.out hi).2.2.1) k hk)
        have HAB := Lib.hid (fun i (hi : i < m) => (Db.ok_in HCK.out hi).2.2)
        clear hy he hck ht hl hex
        go_wp2_with fail
        refine (pay_good (by omega) (by omega) ((hB.sub (by omega)).below hb) k1 (fun i _ => cut40_size _) g0 g1 HT.out HE.out HCK.out t0 t1).mono ?_
        rintro e w2 ⟨D2, c2, rfl, k2, hb2, _⟩
        rw [← HL.out]
        unfold order
        have HK1 := Lib.hid ((k1.below hb2).alloc (.cells #[.int .i64 g, .int .i64 t, .slice D2 m c2, .int .i64 l] 27))
        have HK2 := Lib.hid (k2.alloc (.cells #[.int .i64 g, .int .i64 t, .slice D2 m c2, .int .i64 l] 27))
        have HB := Lib.hid ((Below.on hb hb2).alloc (Below.on hb hb2).size (.cells #[.int .i64 g, .int .i64 t, .slice D2 m c2, .int .i64 l] 27))
        have HBX := Lib.hid (orderBox w2 g t l (.slice D2 m c2))
        clear hb2 k1 k2 hb
        go_upto_region 5 with (fail)
        generalize w2.alloc (.cells #[.int .i64 g, .int .i64 t, .slice D2 m c2, .int .i64 l] 27) = W2 at HK1 HK2 HB HBX ⊢
        obtain ⟨q0, q1, q2, q3, _⟩ := HBX.out.all
        go_wp2_with fail
        refine (exact_any (g := g) (t := t) (l := l) (O := Db.get A (g - t)) (by omega) HK2.out).mono ?_
        rintro e w3 ⟨rfl, hb3⟩
        rw [HEX.out]
        clear q0 q1 q2 q3
        replace HK1 := Lib.hid (HK1.out.below hb3)
        replace HK2 := Lib.hid (HK2.out.below hb3)
        replace HB := Lib.hid (Below.on HB.out hb3)
        replace HBX := Lib.hid (HBX.out.on hb3)
        clear hb3
        obtain ⟨q0, q1, q2, q3, _⟩ := HBX.out.all
        have hms : (m : Int) ≤ 20 := by omega
        go_wp2
        go_loopw [9, 72] (fun sl si wr => ∃ k : Nat, k ≤ m ∧ si = .int .i64 (k : Int) ∧ sl = .int .i64 (Db.left A (g - t) k) ∧ Hid (Below w3.heap.size w3 wr)) (fun _ si _ => m - (intOf si).toNat)
        case atStart => exact ⟨0, Nat.zero_le _, rfl, rfl, Lib.hid (Below.refl _ _)⟩
        case round =>
          obtain ⟨k, hk, rfl, rfl, HBR⟩ := hrel
          have hlk := HLB.out k hk
          obtain ⟨x, hx⟩ : ∃ x, x = Db.left A (g - t) k := ⟨_, rfl⟩
          rw [← hx] at hlk ⊢
          have HX := Lib.hid hx
          clear hx q0 q1 q2 q3
          obtain ⟨q0, q1, q2, q3, _⟩ := (HBX.out.on HBR.out).all
          by_cases hkm : k < m
          · obtain ⟨b2, o2, rfl, hlt2, hc2⟩ := (HK2.out.below HBR.out).one hkm
            obtain ⟨b3, o3, rfl, hlt3, hs3, hr3, ha3⟩ := (HK1.out.below HBR.out).three hkm
            have hak := HAB.out k hkm
            have hgo : Db.get A (g - t) k = min x (A k) := by unfold Db.get; rw [HX.out]
            have hnx : Db.left A (g - t) (k + 1) = x - Db.get A (g - t) k := by rw [Db.left_succ, HX.out]
            obtain ⟨o, ho⟩ : ∃ o, o = Db.get A (g - t) k := ⟨_, rfl⟩
            rw [← ho] at hgo hnx hc2
            have HNX := Lib.hid hnx
            have d1 : decide (o < 0) = false := decide_eq_false (by omega)
            have d2 : decide (A k < o) = false := decide_eq_false (by omega)
            have d3 : decide (x < o) = false := decide_eq_false (by omega)
            have hk0 : (0 : Int) ≤ (k : Int) := by omega
            have hki : (k : Int) < (m : Int) := by omega
            by_cases hox : o < x
            · have d4 : decide (o < x) = true := decide_eq_true hox
              have d5 : decide (o < A k) = false := decide_eq_false (by omega)
              have hob : 0 ≤ o ∧ o ≤ 1000000000000 := by omega
              obtain ⟨ob0, ob1⟩ := hob
              clear hgo ho hnx hox
              go_wp2
              go_quiet (fail)
              go_wp2
              go_roundw
              case rel => exact ⟨k + 1, by omega, by go_num, by rw [HNX.out], Lib.hid (below_drewN HBR.out _)⟩
              case measure => simp [intOf]; omega
            · have d4 : decide (o < x) = false := decide_eq_false hox
              have hob : 0 ≤ o ∧ o ≤ 1000000000000 := by omega
              obtain ⟨ob0, ob1⟩ := hob
              clear hgo ho hnx hox
              go_wp2
              go_quiet (fail)
              go_wp2
              go_roundw
              case rel => exact ⟨k + 1, by omega, by go_num, by rw [HNX.out], Lib.hid (below_drewN HBR.out _)⟩
              case measure => simp [intOf]; omega
          · obtain rfl : k = m := by omega
            have hxl : x = l := by rw [HX.out, HL.out]
            subst hxl
            clear hkm
            go_wp2_with fail
            refine (works47 _).mono ?_
            rintro e w9 ⟨rfl, hb9⟩
            have hbe := Below.on (Below.on HB.out HBR.out) hb9
            clear hb9 q0 q1 q2 q3
            go_wp2
            go_ret
            exact ⟨rfl, hbe⟩
      · have Hy := Lib.hid hy
        clear hy
        go_wp2_with fail
        refine (pay_bad (by omega) (by omega) ((hB.sub (by omega)).below hb) k1 (fun i _ => cut40_size _) Hy.out.symm hy0).mono ?_
        rintro e w2 ⟨rfl, hb2⟩
        unfold order
        have HB := Lib.hid ((Below.on hb hb2).alloc (Below.on hb hb2).size (.cells #[.int .i64 0, .int .i64 0, .slice none 0 0, .int .i64 0] 27))
        clear hb2 hb k1
        go_wp2_with fail
        refine (works47 _).mono ?_
        rintro e w9 ⟨rfl, hb9⟩
        have hbe := Below.on HB.out hb9
        clear hb9
        go_wp2
        go_ret
        exact ⟨rfl, hbe⟩
  · have hni : (n : Int) ≤ (c : Int) := by omega
    have hnz : (0 : Int) ≤ (n : Int) := by omega
    have h12i : ((12 : Int) < (n : Int)) = False := eq_false (by omega)
    go_enter Try.func6, Try.ntmps6
    go_wp2_with fail
    go_region_held3 (fun _ => True) (trivial) ((go_at_call 9; refine (few_any (w := W.drew) (by omega) (fun hm => hD hm) hC0).mono ?_; rintro e w1 ⟨D1, c1, m, rfl, hm, k1, hb1⟩; have hmm : m ≤ 20 := (by omega); clear hm))
    all_goals
      have hb : Below W.heap.size W w1 := ⟨hb1.os, hb1.tape, hb1.output, hb1.size, hb1.block⟩
      clear hb1
      obtain ⟨y, hy⟩ : ∃ y, y = perr n F R m (fun i => cut40 (C0 i)) K A g := ⟨_, rfl⟩
      by_cases hy0 : y = 0
      · subst hy0
        obtain ⟨g0, g1, he, hck⟩ := perr_zero hy.symm
        have hbd := Tx.bounds_of he
        obtain ⟨t, ht⟩ : ∃ t, Tx.val n F R g = t := ⟨_, rfl⟩
        rw [ht] at hbd
        obtain ⟨t0, t1, _⟩ := hbd
        have hex := Ex.exact_pay hck g0 g1 t0 t1
        obtain ⟨l, hl⟩ : ∃ l, l = Db.left A (g - t) m := ⟨_, rfl⟩
        rw [← hl] at hex
        have HEX := Lib.hid hex
        have HE := Lib.hid he
        have HCK := Lib.hid hck
        have HT := Lib.hid ht
        have HL := Lib.hid hl
        have HLB := Lib.hid (fun k (hk : k ≤ m) => Db.left_bounds (A := A) (a := g - t) (n := m) (by omega) (fun i hi => (Db.ok_in HCK.out hi).2.2.1) k hk)
        have HAB := Lib.hid (fun i (hi : i < m) => (Db.ok_in HCK.out hi).2.2)
        clear hy he hck ht hl hex
        go_wp2_with fail
        refine (pay_good (by omega) (by omega) ((hB.sub (by omega)).below hb) k1 (fun i _ => cut40_size _) g0 g1 HT.out HE.out HCK.out t0 t1).mono ?_
        rintro e w2 ⟨D2, c2, rfl, k2, hb2, _⟩
        rw [← HL.out]
        unfold order
        have HK1 := Lib.hid ((k1.below hb2).alloc (.cells #[.int .i64 g, .int .i64 t, .slice D2 m c2, .int .i64 l] 27))
        have HK2 := Lib.hid (k2.alloc (.cells #[.int .i64 g, .int .i64 t, .slice D2 m c2, .int .i64 l] 27))
        have HB := Lib.hid ((Below.on hb hb2).alloc (Below.on hb hb2).size (.cells #[.int .i64 g, .int .i64 t, .slice D2 m c2, .int .i64 l] 27))
        have HBX := Lib.hid (orderBox w2 g t l (.slice D2 m c2))
        clear hb2 k1 k2 hb
        go_upto_region 5 with (fail)
        generalize w2.alloc (.cells #[.int .i64 g, .int .i64 t, .slice D2 m c2, .int .i64 l] 27) = W2 at HK1 HK2 HB HBX ⊢
        obtain ⟨q0, q1, q2, q3, _⟩ := HBX.out.all
        go_wp2_with fail
        refine (exact_any (g := g) (t := t) (l := l) (O := Db.get A (g - t)) (by omega) HK2.out).mono ?_
        rintro e w3 ⟨rfl, hb3⟩
        rw [HEX.out]
        clear q0 q1 q2 q3
        replace HK1 := Lib.hid (HK1.out.below hb3)
        replace HK2 := Lib.hid (HK2.out.below hb3)
        replace HB := Lib.hid (Below.on HB.out hb3)
        replace HBX := Lib.hid (HBX.out.on hb3)
        clear hb3
        obtain ⟨q0, q1, q2, q3, _⟩ := HBX.out.all
        have hms : (m : Int) ≤ 20 := by omega
        go_wp2
        go_loopw [9, 72] (fun sl si wr => ∃ k : Nat, k ≤ m ∧ si = .int .i64 (k : Int) ∧ sl = .int .i64 (Db.left A (g - t) k) ∧ Hid (Below w3.heap.size w3 wr)) (fun _ si _ => m - (intOf si).toNat)
        case atStart => exact ⟨0, Nat.zero_le _, rfl, rfl, Lib.hid (Below.refl _ _)⟩
        case round =>
          obtain ⟨k, hk, rfl, rfl, HBR⟩ := hrel
          have hlk := HLB.out k hk
          obtain ⟨x, hx⟩ : ∃ x, x = Db.left A (g - t) k := ⟨_, rfl⟩
          rw [← hx] at hlk ⊢
          have HX := Lib.hid hx
          clear hx q0 q1 q2 q3
          obtain ⟨q0, q1, q2, q3, _⟩ := (HBX.out.on HBR.out).all
          by_cases hkm : k < m
          · obtain ⟨b2, o2, rfl, hlt2, hc2⟩ := (HK2.out.below HBR.out).one hkm
            obtain ⟨b3, o3, rfl, hlt3, hs3, hr3, ha3⟩ := (HK1.out.below HBR.out).three hkm
            have hak := HAB.out k hkm
            have hgo : Db.get A (g - t) k = min x (A k) := by unfold Db.get; rw [HX.out]
            have hnx : Db.left A (g - t) (k + 1) = x - Db.get A (g - t) k := by rw [Db.left_succ, HX.out]
            obtain ⟨o, ho⟩ : ∃ o, o = Db.get A (g - t) k := ⟨_, rfl⟩
            rw [← ho] at hgo hnx hc2
            have HNX := Lib.hid hnx
            have d1 : decide (o < 0) = false := decide_eq_false (by omega)
            have d2 : decide (A k < o) = false := decide_eq_false (by omega)
            have d3 : decide (x < o) = false := decide_eq_false (by omega)
            have hk0 : (0 : Int) ≤ (k : Int) := by omega
            have hki : (k : Int) < (m : Int) := by omega
            by_cases hox : o < x
            · have d4 : decide (o < x) = true := decide_eq_true hox
              have d5 : decide (o < A k) = false := decide_eq_false (by omega)
              have hob : 0 ≤ o ∧ o ≤ 1000000000000 := by omega
              obtain ⟨ob0, ob1⟩ := hob
              clear hgo ho hnx hox
              go_wp2
              go_quiet (fail)
              go_wp2
              go_roundw
              case rel => exact ⟨k + 1, by omega, by go_num, by rw [HNX.out], Lib.hid (below_drewN HBR.out _)⟩
              case measure => simp [intOf]; omega
            · have d4 : decide (o < x) = false := decide_eq_false hox
              have hob : 0 ≤ o ∧ o ≤ 1000000000000 := by omega
              obtain ⟨ob0, ob1⟩ := hob
              clear hgo ho hnx hox
              go_wp2
              go_quiet (fail)
              go_wp2
              go_roundw
              case rel => exact ⟨k + 1, by omega, by go_num, by rw [HNX.out], Lib.hid (below_drewN HBR.out _)⟩
              case measure => simp [intOf]; omega
          · obtain rfl : k = m := by omega
            have hxl : x = l := by rw [HX.out, HL.out]
            subst hxl
            clear hkm
            go_wp2_with fail
            refine (works47 _).mono ?_
            rintro e w9 ⟨rfl, hb9⟩
            have hbe := Below.on (Below.on HB.out HBR.out) hb9
            clear hb9 q0 q1 q2 q3
            go_wp2
            go_ret
            exact ⟨rfl, hbe⟩
      · have Hy := Lib.hid hy
        clear hy
        go_wp2_with fail
        refine (pay_bad (by omega) (by omega) ((hB.sub (by omega)).below hb) k1 (fun i _ => cut40_size _) Hy.out.symm hy0).mono ?_
        rintro e w2 ⟨rfl, hb2⟩
        unfold order
        have HB := Lib.hid ((Below.on hb hb2).alloc (Below.on hb hb2).size (.cells #[.int .i64 0, .int .i64 0, .slice none 0 0, .int .i64 0] 27))
        clear hb2 hb k1
        go_wp2_with fail
        refine (works47 _).mono ?_
        rintro e w9 ⟨rfl, hb9⟩
        have hbe := Below.on HB.out hb9
        clear hb9
        go_wp2
        go_ret
        exact ⟨rfl, hbe⟩
end Go.Proofs.Ytjifpiaianmmbaa
