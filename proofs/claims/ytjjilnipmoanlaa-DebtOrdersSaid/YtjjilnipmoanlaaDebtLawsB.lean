/- The walks of the laws DebtOrders and DebtGrows. -/
import Derived.Test.YtjjilnipmoanlaaDebtForms
import Derived.Test.YtjjilnipmoanlaaDebtFacts
set_option linter.unusedVariables false
namespace Go.Proofs.Ytjjilnipmoanlaa
open Go.RowKit

set_option maxHeartbeats 2000000 in
set_option maxRecDepth 100000 in
theorem debtOrders_walk (W : World) {D : Option Addr} {n c : Nat} {C : Nat → ByteArray} {R A : Nat → Int} (hn : n ≤ c) (hc : c ≤ maxLen) (h : Cells W D (n * 3) (Three C R A)) (hC : ∀ i, i < n → (C i).size ≤ maxLen) (hw : ∀ i, i < n → (Lit.int .i64 (R i)).wf = true ∧ (Lit.int .i64 (A i)).wf = true) (a : Int) (wa : (Lit.int .i64 a).wf = true) :
    Calls Try.prog 11 #[.slice D n c, .int .i64 a] W fun e w' => e = .returned (.bool true) ∧ Below W.heap.size W w' := by
  have hn9 : n ≤ 9223372036854775807 := by unfold maxLen at hc; omega
  clear hw
  clear wa
  by_cases h4 : 1000 < n
  · go_enter Try.func11, Try.ntmps11
    go_wp2_with fail
    refine (awake46 _).mono ?_
    rintro e w9 ⟨rfl, hb9⟩
    have hb := hb9
    clear hb9
    go_wp2
    go_ret
    exact ⟨rfl, hb⟩
  by_cases ho : Db.oerr C R A n a = 0
  · obtain ⟨hck, a0, a1⟩ := Db.oerr_ok ho
    have hn16 := (Db.of_chk hck).1
    have hA : ∀ i, i < n → 1 ≤ A i := fun i hi => (Db.ok_in hck hi).2.2.1
    have hA2 : ∀ i, i < n → A i ≤ 1000000000000 := fun i hi => (Db.ok_in hck hi).2.2.2
    obtain ⟨G, hG⟩ : ∃ G, G = Db.get A a := ⟨_, rfl⟩
    obtain ⟨l, hl⟩ : ∃ l, l = Db.left A a n := ⟨_, rfl⟩
    have hlb := Db.left_bounds a0 hA n (Nat.le_refl _)
    rw [← hl] at hlb
    obtain ⟨l0, l1⟩ := hlb
    have HG := Lib.hid hG
    have HL := Lib.hid hl
    have HA := Lib.hid hA
    have HA2 := Lib.hid hA2
    have Ho := Lib.hid ho
    clear ho hck hG hl hA hA2
    have heq : ((n : Int) != (n : Int)) = false := by simp
    go_enter Try.func11, Try.ntmps11
    go_wp2_with fail
    refine (offset_good hn9 h hC Ho.out).mono ?_
    rintro e w9 ⟨D1, c1, rfl, k1, hb⟩
    rw [← HG.out] at k1
    rw [← HL.out]
    go_wp2
    go_loopw [8, 9, 42] (fun s f i wr => ∃ k : Nat, k ≤ n ∧ i = .int .i64 k ∧ s = .int .i64 (l + Db.gsum G k) ∧ f = .bool (Db.full A G k) ∧ Below W.heap.size W wr ∧ Cells wr D1 (n * 1) (Ints G)) (fun _ _ i _ => n - (intOf i).toNat)
    case atStart => exact ⟨0, Nat.zero_le _, rfl, by simp [Db.gsum], rfl, hb, k1⟩
    case round =>
      obtain ⟨k, hk, rfl, rfl, rfl, hbw, hk1⟩ := hrel
      have hgs := Db.gsum_get A a k
      rw [← HG.out] at hgs
      have hlk := Db.left_bounds a0 HA.out k hk
      have hgs0 : 0 ≤ Db.gsum G k := by omega
      have hgs1 : Db.gsum G k ≤ a := by omega
      clear hgs hlk
      by_cases hkn : k < n
      · obtain ⟨b, off, rfl, hlt, _, _, hc2⟩ := (h.below hbw).three hkn
        obtain ⟨b', off', rfl, hlt', hc3⟩ := hk1.one hkn
        have hgb := Db.get_bounds a0 HA.out hkn
        have hgf := Db.get_full a0 HA.out hkn
        rw [← HG.out] at hgb hgf
        obtain ⟨g0, g1, g2⟩ := hgb
        have hgs := Db.gsum_get A a (k + 1)
        have hlk := Db.left_bounds a0 HA.out (k + 1) hkn
        rw [← HG.out, Db.gsum_next] at hgs
        have gs2 : Db.gsum G k + G k ≤ a := by omega
        clear hgs hlk
        have Hgf := Lib.hid hgf
        have Hfn := Lib.hid (Db.full_next A G k)
        have Hgn := Lib.hid (Db.gsum_next G k)
        have HK1 := Lib.hid hk1
        clear hgf hk1
        have d1 : decide (G k < 0) = false := decide_eq_false (by omega)
        have d2 : decide (A k < G k) = false := decide_eq_false (by omega)
        by_cases hpos : 0 < G k
        · have hf := Hgf.out hpos
          have d3 : decide (0 < G k) = true := decide_eq_true hpos
          rw [hf] at Hfn ⊢
          go_wp2
          go_quiet (fail)
          go_wp2
          go_quiet (fail)
          go_wp2
          go_roundw
          case rel => exact ⟨k + 1, by omega, by go_num, by rw [Hgn.out]; go_num, by rw [Hfn.out]; simp, below_drewN hbw _, fun hm => HK1.out hm⟩
          case measure => simp [intOf]; omega
        · have d3 : decide (0 < G k) = false := decide_eq_false hpos
          cases hf : Db.full A G k with
          | true =>
            rw [hf] at Hfn
            clear hf
            go_wp2
            go_quiet (fail)
            go_wp2
            go_quiet (fail)
            go_wp2
            go_roundw
            case rel => exact ⟨k + 1, by omega, by go_num, by rw [Hgn.out]; go_num, by rw [Hfn.out]; simp, below_drewN hbw _, fun hm => HK1.out hm⟩
            case measure => simp [intOf]; omega
          | false =>
            rw [hf] at Hfn
            clear hf
            go_wp2
            go_quiet (fail)
            go_wp2
            go_quiet (fail)
            go_wp2
            go_roundw
            case rel => exact ⟨k + 1, by omega, by go_num, by rw [Hgn.out]; go_num, by rw [Hfn.out]; simp, below_drewN hbw _, fun hm => HK1.out hm⟩
            case measure => simp [intOf]; omega
      · obtain rfl : k = n := by omega
        have hgs := Db.gsum_get A a k
        rw [← HG.out, ← HL.out] at hgs
        have he : l + Db.gsum G k = a := by omega
        rw [he]
        have hle := Db.left_empty a0 HA.out k (Nat.le_refl _)
        rw [← HG.out, ← HL.out] at hle
        have Hle := Lib.hid hle
        clear hgs he hle hk1
        cases hf : Db.full A G k with
        | true =>
          clear hf
          go_wp2_with fail
          refine (awake46 _).mono ?_
          rintro e w8 ⟨rfl, hb8⟩
          replace hbw := Below.on hbw hb8
          go_wp2
          go_ret
          exact ⟨rfl, hbw⟩
        | false =>
          have hl0 : l = 0 := Hle.out hf
          subst hl0
          clear hf
          go_wp2_with fail
          refine (awake46 _).mono ?_
          rintro e w8 ⟨rfl, hb8⟩
          replace hbw := Below.on hbw hb8
          go_wp2
          go_ret
          exact ⟨rfl, hbw⟩
  · obtain ⟨y, hy⟩ : ∃ y, y = Db.oerr C R A n a := ⟨_, rfl⟩
    rw [← hy] at ho
    have Hy := Lib.hid hy
    clear hy
    go_enter Try.func11, Try.ntmps11
    go_wp2_with fail
    refine (offset_bad hn9 h hC Hy.out.symm ho).mono ?_
    rintro e w9 ⟨rfl, hb9⟩
    have hb := hb9
    clear hb9
    go_wp2_with fail
    refine (awake46 _).mono ?_
    rintro e w9 ⟨rfl, hb9⟩
    replace hb := Below.on hb hb9
    clear hb9
    go_wp2
    go_ret
    exact ⟨rfl, hb⟩
end Go.Proofs.Ytjjilnipmoanlaa
