/- The walks of the laws DebtGrows and DebtRests. -/
import Derived.Test.YtjjilnipmoanlaaDebtForms
import Derived.Test.YtjjilnipmoanlaaDebtFacts
set_option linter.unusedVariables false
namespace Go.Proofs.Ytjjilnipmoanlaa
open Go.RowKit

set_option maxHeartbeats 1000000 in
set_option maxRecDepth 100000 in
theorem debtGrows_walk (W : World) {D : Option Addr} {n c : Nat} {C : Nat → ByteArray} {R A : Nat → Int} (hn : n ≤ c) (hc : c ≤ maxLen) (h : Cells W D (n * 3) (Three C R A)) (hC : ∀ i, i < n → (C i).size ≤ maxLen) (hw : ∀ i, i < n → (Lit.int .i64 (R i)).wf = true ∧ (Lit.int .i64 (A i)).wf = true) (x : Int) (wx : (Lit.int .i64 x).wf = true) (y : Int) (wy : (Lit.int .i64 y).wf = true) :
    Calls Try.prog 12 #[.slice D n c, .int .i64 x, .int .i64 y] W fun e w' => e = .returned (.bool true) ∧ Below W.heap.size W w' := by
  have hn9 : n ≤ 9223372036854775807 := by unfold maxLen at hc; omega
  clear hw
  clear wx wy
  by_cases h4 : 1000 < n
  · go_enter Try.func12, Try.ntmps12
    go_wp2_with fail
    refine (awake46 _).mono ?_
    rintro e w9 ⟨rfl, hb9⟩
    have hb := hb9
    clear hb9
    go_wp2
    go_ret
    exact ⟨rfl, hb⟩
  by_cases hxy : x < y
  · obtain ⟨ep, hep⟩ : ∃ e, e = Db.oerr C R A n x := ⟨_, rfl⟩
    obtain ⟨eq, heq⟩ : ∃ e, e = Db.oerr C R A n y := ⟨_, rfl⟩
    have Hp := Lib.hid hep
    have Hq := Lib.hid heq
    clear hep heq
    by_cases h1 : ep = 0
    · subst h1
      by_cases h2 : eq = 0
      · subst h2
        have hn16 := (Db.of_chk (Db.oerr_ok Hp.out.symm).1).1
        obtain ⟨lp, hlp⟩ : ∃ l, l = Db.left A x n := ⟨_, rfl⟩
        obtain ⟨lq, hlq⟩ : ∃ l, l = Db.left A y n := ⟨_, rfl⟩
        obtain ⟨G, hG⟩ : ∃ G, G = Db.get A x := ⟨_, rfl⟩
        obtain ⟨K, hK⟩ : ∃ K, K = Db.get A y := ⟨_, rfl⟩
        have hle : lp ≤ lq := by rw [hlp, hlq]; exact Db.left_mono (by omega) n
        have HGK := Lib.hid (show ∀ k, G k ≤ K k by intro k; rw [hG, hK]; exact Db.get_mono (by omega) k)
        have Hlp := Lib.hid hlp
        have Hlq := Lib.hid hlq
        have HG := Lib.hid hG
        have HK := Lib.hid hK
        clear hlp hlq hG hK
        have hnn : ((n : Int) != (n : Int)) = false := by simp
        go_enter Try.func12, Try.ntmps12
        go_wp2_with fail
        refine (offset_good hn9 h hC Hp.out.symm).mono ?_
        rintro e w9 ⟨D1, c1, rfl, k1, hb⟩
        rw [← HG.out] at k1
        rw [← Hlp.out]
        go_wp2_with fail
        refine (offset_good hn9 (h.below hb) hC Hq.out.symm).mono ?_
        rintro e w8 ⟨D2, c2, rfl, k2, hb8⟩
        rw [← HK.out] at k2
        rw [← Hlq.out]
        replace k1 := k1.below hb8
        replace hb := Below.on hb hb8
        clear hb8
        go_wp2
        go_loopw [55] (fun i wr => ∃ k : Nat, k ≤ n ∧ i = .int .i64 k ∧ Below W.heap.size W wr ∧ Cells wr D1 (n * 1) (Ints G) ∧ Cells wr D2 (n * 1) (Ints K)) (fun i _ => n - (intOf i).toNat)
        case atStart => exact ⟨0, Nat.zero_le _, rfl, hb, k1, k2⟩
        case round =>
          obtain ⟨k, hk, rfl, hbw, hk1, hk2⟩ := hrel
          by_cases hkn : k < n
          · obtain ⟨b1, o1, rfl, _, hc1⟩ := hk1.one hkn
            obtain ⟨b2, o2, rfl, _, hc2⟩ := hk2.one hkn
            have HK1 := Lib.hid hk1
            have HK2 := Lib.hid hk2
            clear hk1 hk2
            have d1 : decide (K k < G k) = false := decide_eq_false (by have := HGK.out k; omega)
            go_wp2
            go_quiet (fail)
            go_wp2
            go_roundw
            case rel => exact ⟨k + 1, by omega, by go_num, below_drewN hbw _, fun hm => HK1.out hm, fun hm => HK2.out hm⟩
            case measure => simp [intOf]; omega
          · clear hk1 hk2
            go_wp2_with fail
            refine (awake46 _).mono ?_
            rintro e w7 ⟨rfl, hb7⟩
            replace hbw := Below.on hbw hb7
            go_wp2
            go_ret
            exact ⟨rfl, hbw⟩
      · have h2' : ¬ eq = 0 := h2
        go_enter Try.func12, Try.ntmps12
        go_wp2_with fail
        refine (offset_good hn9 h hC Hp.out.symm).mono ?_
        rintro e w9 ⟨D1, c1, rfl, k1, hb9⟩
        have hb := hb9
        clear hb9
        clear k1
        go_wp2_with fail
        refine (offset_bad hn9 (h.below hb) hC Hq.out.symm h2).mono ?_
        rintro e w9 ⟨rfl, hb9⟩
        replace hb := Below.on hb hb9
        clear hb9
        go_wp2_with fail
        refine (awake46 _).mono ?_
        rintro e w9 ⟨rfl, hb9⟩
        replace hb := Below.on hb hb9
        clear hb9
        go_wp2
        go_ret
        exact ⟨rfl, hb⟩
    · by_cases h2 : eq = 0
      · subst h2
        go_enter Try.func12, Try.ntmps12
        go_wp2_with fail
        refine (offset_bad hn9 h hC Hp.out.symm h1).mono ?_
        rintro e w9 ⟨rfl, hb9⟩
        have hb := hb9
        clear hb9
        go_wp2_with fail
        refine (offset_good hn9 (h.below hb) hC Hq.out.symm).mono ?_
        rintro e w9 ⟨D1, c1, rfl, k1, hb9⟩
        replace hb := Below.on hb hb9
        clear hb9
        clear k1
        go_wp2_with fail
        refine (awake46 _).mono ?_
        rintro e w9 ⟨rfl, hb9⟩
        replace hb := Below.on hb hb9
        clear hb9
        go_wp2
        go_ret
        exact ⟨rfl, hb⟩
      · go_enter Try.func12, Try.ntmps12
        go_wp2_with fail
        refine (offset_bad hn9 h hC Hp.out.symm h1).mono ?_
        rintro e w9 ⟨rfl, hb9⟩
        have hb := hb9
        clear hb9
        go_wp2_with fail
        refine (offset_bad hn9 (h.below hb) hC Hq.out.symm h2).mono ?_
        rintro e w9 ⟨rfl, hb9⟩
        replace hb := Below.on hb hb9
        clear hb9
        go_wp2_with fail
        refine (awake46 _).mono ?_
        rintro e w9 ⟨rfl, hb9⟩
        replace hb := Below.on hb hb9
        clear hb9
        go_wp2
        go_ret
        exact ⟨rfl, hb⟩
  by_cases hyx : y < x
  · obtain ⟨ep, hep⟩ : ∃ e, e = Db.oerr C R A n y := ⟨_, rfl⟩
    obtain ⟨eq, heq⟩ : ∃ e, e = Db.oerr C R A n x := ⟨_, rfl⟩
    have Hp := Lib.hid hep
    have Hq := Lib.hid heq
    clear hep heq
    by_cases h1 : ep = 0
    · subst h1
      by_cases h2 : eq = 0
      · subst h2
        have hn16 := (Db.of_chk (Db.oerr_ok Hp.out.symm).1).1
        obtain ⟨lp, hlp⟩ : ∃ l, l = Db.left A y n := ⟨_, rfl⟩
        obtain ⟨lq, hlq⟩ : ∃ l, l = Db.left A x n := ⟨_, rfl⟩
        obtain ⟨G, hG⟩ : ∃ G, G = Db.get A y := ⟨_, rfl⟩
        obtain ⟨K, hK⟩ : ∃ K, K = Db.get A x := ⟨_, rfl⟩
        have hle : lp ≤ lq := by rw [hlp, hlq]; exact Db.left_mono (by omega) n
        have HGK := Lib.hid (show ∀ k, G k ≤ K k by intro k; rw [hG, hK]; exact Db.get_mono (by omega) k)
        have Hlp := Lib.hid hlp
        have Hlq := Lib.hid hlq
        have HG := Lib.hid hG
        have HK := Lib.hid hK
        clear hlp hlq hG hK
        have hnn : ((n : Int) != (n : Int)) = false := by simp
        go_enter Try.func12, Try.ntmps12
        go_wp2_with fail
        refine (offset_good hn9 h hC Hp.out.symm).mono ?_
        rintro e w9 ⟨D1, c1, rfl, k1, hb⟩
        rw [← HG.out] at k1
        rw [← Hlp.out]
        go_wp2_with fail
        refine (offset_good hn9 (h.below hb) hC Hq.out.symm).mono ?_
        rintro e w8 ⟨D2, c2, rfl, k2, hb8⟩
        rw [← HK.out] at k2
        rw [← Hlq.out]
        replace k1 := k1.below hb8
        replace hb := Below.on hb hb8
        clear hb8
        go_wp2
        go_loopw [55] (fun i wr => ∃ k : Nat, k ≤ n ∧ i = .int .i64 k ∧ Below W.heap.size W wr ∧ Cells wr D1 (n * 1) (Ints G) ∧ Cells wr D2 (n * 1) (Ints K)) (fun i _ => n - (intOf i).toNat)
        case atStart => exact ⟨0, Nat.zero_le _, rfl, hb, k1, k2⟩
        case round =>
          obtain ⟨k, hk, rfl, hbw, hk1, hk2⟩ := hrel
          by_cases hkn : k < n
          · obtain ⟨b1, o1, rfl, _, hc1⟩ := hk1.one hkn
            obtain ⟨b2, o2, rfl, _, hc2⟩ := hk2.one hkn
            have HK1 := Lib.hid hk1
            have HK2 := Lib.hid hk2
            clear hk1 hk2
            have d1 : decide (K k < G k) = false := decide_eq_false (by have := HGK.out k; omega)
            go_wp2
            go_quiet (fail)
            go_wp2
            go_roundw
            case rel => exact ⟨k + 1, by omega, by go_num, below_drewN hbw _, fun hm => HK1.out hm, fun hm => HK2.out hm⟩
            case measure => simp [intOf]; omega
          · clear hk1 hk2
            go_wp2_with fail
            refine (awake46 _).mono ?_
            rintro e w7 ⟨rfl, hb7⟩
            replace hbw := Below.on hbw hb7
            go_wp2
            go_ret
            exact ⟨rfl, hbw⟩
      · have h2' : ¬ eq = 0 := h2
        go_enter Try.func12, Try.ntmps12
        go_wp2_with fail
        refine (offset_good hn9 h hC Hp.out.symm).mono ?_
        rintro e w9 ⟨D1, c1, rfl, k1, hb9⟩
        have hb := hb9
        clear hb9
        clear k1
        go_wp2_with fail
        refine (offset_bad hn9 (h.below hb) hC Hq.out.symm h2).mono ?_
        rintro e w9 ⟨rfl, hb9⟩
        replace hb := Below.on hb hb9
        clear hb9
        go_wp2_with fail
        refine (awake46 _).mono ?_
        rintro e w9 ⟨rfl, hb9⟩
        replace hb := Below.on hb hb9
        clear hb9
        go_wp2
        go_ret
        exact ⟨rfl, hb⟩
    · by_cases h2 : eq = 0
      · subst h2
        go_enter Try.func12, Try.ntmps12
        go_wp2_with fail
        refine (offset_bad hn9 h hC Hp.out.symm h1).mono ?_
        rintro e w9 ⟨rfl, hb9⟩
        have hb := hb9
        clear hb9
        go_wp2_with fail
        refine (offset_good hn9 (h.below hb) hC Hq.out.symm).mono ?_
        rintro e w9 ⟨D1, c1, rfl, k1, hb9⟩
        replace hb := Below.on hb hb9
        clear hb9
        clear k1
        go_wp2_with fail
        refine (awake46 _).mono ?_
        rintro e w9 ⟨rfl, hb9⟩
        replace hb := Below.on hb hb9
        clear hb9
        go_wp2
        go_ret
        exact ⟨rfl, hb⟩
      · go_enter Try.func12, Try.ntmps12
        go_wp2_with fail
        refine (offset_bad hn9 h hC Hp.out.symm h1).mono ?_
        rintro e w9 ⟨rfl, hb9⟩
        have hb := hb9
        clear hb9
        go_wp2_with fail
        refine (offset_bad hn9 (h.below hb) hC Hq.out.symm h2).mono ?_
        rintro e w9 ⟨rfl, hb9⟩
        replace hb := Below.on hb hb9
        clear hb9
        go_wp2_with fail
        refine (awake46 _).mono ?_
        rintro e w9 ⟨rfl, hb9⟩
        replace hb := Below.on hb hb9
        clear hb9
        go_wp2
        go_ret
        exact ⟨rfl, hb⟩

  obtain rfl : x = y := by omega
  clear hxy hyx
  · obtain ⟨ep, hep⟩ : ∃ e, e = Db.oerr C R A n x := ⟨_, rfl⟩
    obtain ⟨eq, heq⟩ : ∃ e, e = Db.oerr C R A n x := ⟨_, rfl⟩
    have Hp := Lib.hid hep
    have Hq := Lib.hid heq
    clear hep heq
    by_cases h1 : ep = 0
    · subst h1
      by_cases h2 : eq = 0
      · subst h2
        have hn16 := (Db.of_chk (Db.oerr_ok Hp.out.symm).1).1
        obtain ⟨lp, hlp⟩ : ∃ l, l = Db.left A x n := ⟨_, rfl⟩
        obtain ⟨lq, hlq⟩ : ∃ l, l = Db.left A x n := ⟨_, rfl⟩
        obtain ⟨G, hG⟩ : ∃ G, G = Db.get A x := ⟨_, rfl⟩
        obtain ⟨K, hK⟩ : ∃ K, K = Db.get A x := ⟨_, rfl⟩
        have hle : lp ≤ lq := by rw [hlp, hlq]; exact Db.left_mono (by omega) n
        have HGK := Lib.hid (show ∀ k, G k ≤ K k by intro k; rw [hG, hK]; exact Db.get_mono (by omega) k)
        have Hlp := Lib.hid hlp
        have Hlq := Lib.hid hlq
        have HG := Lib.hid hG
        have HK := Lib.hid hK
        clear hlp hlq hG hK
        have hnn : ((n : Int) != (n : Int)) = false := by simp
        go_enter Try.func12, Try.ntmps12
        go_wp2_with fail
        refine (offset_good hn9 h hC Hp.out.symm).mono ?_
        rintro e w9 ⟨D1, c1, rfl, k1, hb⟩
        rw [← HG.out] at k1
        rw [← Hlp.out]
        go_wp2_with fail
        refine (offset_good hn9 (h.below hb) hC Hq.out.symm).mono ?_
        rintro e w8 ⟨D2, c2, rfl, k2, hb8⟩
        rw [← HK.out] at k2
        rw [← Hlq.out]
        replace k1 := k1.below hb8
        replace hb := Below.on hb hb8
        clear hb8
        go_wp2
        go_loopw [55] (fun i wr => ∃ k : Nat, k ≤ n ∧ i = .int .i64 k ∧ Below W.heap.size W wr ∧ Cells wr D1 (n * 1) (Ints G) ∧ Cells wr D2 (n * 1) (Ints K)) (fun i _ => n - (intOf i).toNat)
        case atStart => exact ⟨0, Nat.zero_le _, rfl, hb, k1, k2⟩
        case round =>
          obtain ⟨k, hk, rfl, hbw, hk1, hk2⟩ := hrel
          by_cases hkn : k < n
          · obtain ⟨b1, o1, rfl, _, hc1⟩ := hk1.one hkn
            obtain ⟨b2, o2, rfl, _, hc2⟩ := hk2.one hkn
            have HK1 := Lib.hid hk1
            have HK2 := Lib.hid hk2
            clear hk1 hk2
            have d1 : decide (K k < G k) = false := decide_eq_false (by have := HGK.out k; omega)
            go_wp2
            go_quiet (fail)
            go_wp2
            go_roundw
            case rel => exact ⟨k + 1, by omega, by go_num, below_drewN hbw _, fun hm => HK1.out hm, fun hm => HK2.out hm⟩
            case measure => simp [intOf]; omega
          · clear hk1 hk2
            go_wp2_with fail
            refine (awake46 _).mono ?_
            rintro e w7 ⟨rfl, hb7⟩
            replace hbw := Below.on hbw hb7
            go_wp2
            go_ret
            exact ⟨rfl, hbw⟩
      · have h2' : ¬ eq = 0 := h2
        go_enter Try.func12, Try.ntmps12
        go_wp2_with fail
        refine (offset_good hn9 h hC Hp.out.symm).mono ?_
        rintro e w9 ⟨D1, c1, rfl, k1, hb9⟩
        have hb := hb9
        clear hb9
        clear k1
        go_wp2_with fail
        refine (offset_bad hn9 (h.below hb) hC Hq.out.symm h2).mono ?_
        rintro e w9 ⟨rfl, hb9⟩
        replace hb := Below.on hb hb9
        clear hb9
        go_wp2_with fail
        refine (awake46 _).mono ?_
        rintro e w9 ⟨rfl, hb9⟩
        replace hb := Below.on hb hb9
        clear hb9
        go_wp2
        go_ret
        exact ⟨rfl, hb⟩
    · by_cases h2 : eq = 0
      · subst h2
        go_enter Try.func12, Try.ntmps12
        go_wp2_with fail
        refine (offset_bad hn9 h hC Hp.out.symm h1).mono ?_
        rintro e w9 ⟨rfl, hb9⟩
        have hb := hb9
        clear hb9
        go_wp2_with fail
        refine (offset_good hn9 (h.below hb) hC Hq.out.symm).mono ?_
        rintro e w9 ⟨D1, c1, rfl, k1, hb9⟩
        replace hb := Below.on hb hb9
        clear hb9
        clear k1
        go_wp2_with fail
        refine (awake46 _).mono ?_
        rintro e w9 ⟨rfl, hb9⟩
        replace hb := Below.on hb hb9
        clear hb9
        go_wp2
        go_ret
        exact ⟨rfl, hb⟩
      · go_enter Try.func12, Try.ntmps12
        go_wp2_with fail
        refine (offset_bad hn9 h hC Hp.out.symm h1).mono ?_
        rintro e w9 ⟨rfl, hb9⟩
        have hb := hb9
        clear hb9
        go_wp2_with fail
        refine (offset_bad hn9 (h.below hb) hC Hq.out.symm h2).mono ?_
        rintro e w9 ⟨rfl, hb9⟩
        replace hb := Below.on hb hb9
        clear hb9
        go_wp2_with fail
        refine (awake46 _).mono ?_
        rintro e w9 ⟨rfl, hb9⟩
        replace hb := Below.on hb hb9
        clear hb9
        go_wp2
        go_ret
        exact ⟨rfl, hb⟩
theorem sum_at {D : Option Addr} {n c : Nat} {C : Nat → ByteArray} {R A : Nat → Int} {s : Int} {w : World} (hn : n ≤ 16) (h : Cells w D (n * 3) (Three C R A)) (hA : ∀ i, i < n → 0 ≤ A i ∧ A i ≤ 1000000000000) (hs : Db.gsum A n = s) :
    Calls Try.prog 35 #[.slice D n c] w fun e w' => e = .returned (.int .i64 s) ∧ w = w' := by
  have Hs := Lib.hid hs
  have HA := Lib.hid hA
  clear hs hA
  go_enter Try.func35, Try.ntmps35
  go_wp2
  go_loop [3, 7] (fun t i => ∃ k : Nat, k ≤ n ∧ i = .int .i64 k ∧ t = .int .i64 (Db.gsum A k)) (fun _ i => n - (intOf i).toNat)
  case atStart => exact ⟨0, Nat.zero_le _, rfl, rfl⟩
  case round =>
    obtain ⟨k, hk, rfl, rfl⟩ := hrel
    have hb := Db.gsum_nonneg HA.out k hk
    have hb2 : 1000000000000 * (k : Int) ≤ 16000000000000 := by omega
    by_cases hkn : k < n
    · obtain ⟨b, off, rfl, hlt, _, _, hc2⟩ := h.three hkn
      have hAk := HA.out k hkn
      obtain ⟨q0, q1⟩ := hAk
      obtain ⟨p0, p1⟩ := hb
      have p2 : Db.gsum A k ≤ 16000000000000 := by omega
      clear p1 hb2
      have Hn := Lib.hid (Db.gsum_next A k)
      go_wp2
      go_round
      case rel => exact ⟨k + 1, by omega, by go_num, by rw [Hn.out]⟩
      case measure => simp [intOf]; omega
    · obtain rfl : k = n := by omega
      clear hb hb2
      go_wp2
      go_ret
      exact ⟨ret_int Hs.out, rfl⟩

set_option maxHeartbeats 1000000 in
set_option maxRecDepth 100000 in
theorem debtRests_walk (W : World) {D : Option Addr} {n c : Nat} {C : Nat → ByteArray} {R A : Nat → Int} (hn : n ≤ c) (hc : c ≤ maxLen) (h : Cells W D (n * 3) (Three C R A)) (hC : ∀ i, i < n → (C i).size ≤ maxLen) (hw : ∀ i, i < n → (Lit.int .i64 (R i)).wf = true ∧ (Lit.int .i64 (A i)).wf = true) (a : Int) (wa : (Lit.int .i64 a).wf = true) :
    Calls Try.prog 13 #[.slice D n c, .int .i64 a] W fun e w' => e = .returned (.bool true) ∧ Below W.heap.size W w' := by
  have hn9 : n ≤ 9223372036854775807 := by unfold maxLen at hc; omega
  clear hw
  clear wa
  by_cases h4 : 1000 < n
  · go_enter Try.func13, Try.ntmps13
    go_wp2_with fail
    refine (awake46 _).mono ?_
    rintro e w9 ⟨rfl, hb9⟩
    have hb := hb9
    clear hb9
    go_wp2
    go_ret
    exact ⟨rfl, hb⟩
  by_cases ho : Db.oerr C R A n a = 0
  · obtain ⟨hck, a0, a1⟩ := Db.oerr_ok ho
    have hn16 := (Db.of_chk hck).1
    have hA : ∀ i, i < n → 1 ≤ A i := fun i hi => (Db.ok_in hck hi).2.2.1
    have hA2 : ∀ i, i < n → 0 ≤ A i ∧ A i ≤ 1000000000000 := fun i hi => ⟨by have := (Db.ok_in hck hi).2.2.1; omega, (Db.ok_in hck hi).2.2.2⟩
    have hpay := Db.payOk_get a0 hA
    have hcr := Db.chk_rest hck hpay
    have hgr := Db.gsum_rest (n := n) A (Db.get A a) (fun i hi => (Db.get_bounds a0 hA hi).2.1) n (Nat.le_refl _)
    have hgg := Db.gsum_get A a n
    have hle := Db.cnt_le A (Db.get A a) n
    have hCr : ∀ i, i < Db.cnt A (Db.get A a) n → (C (Db.sel A (Db.get A a) n i)).size ≤ maxLen := fun i hi => hC _ (Db.sel_in hi).1
    have hAr : ∀ i, i < Db.cnt A (Db.get A a) n → 0 ≤ A (Db.sel A (Db.get A a) n i) - Db.get A a (Db.sel A (Db.get A a) n i) ∧ A (Db.sel A (Db.get A a) n i) - Db.get A a (Db.sel A (Db.get A a) n i) ≤ 1000000000000 := fun i hi => by
      have h1 := Db.sel_in hi
      have h2 := hA2 _ h1.1
      have h3 := Db.get_bounds a0 hA h1.1
      omega
    have hlb := Db.left_bounds a0 hA n (Nat.le_refl _)
    have hsb := Db.gsum_nonneg hA2 n (Nat.le_refl _)
    obtain ⟨m, hm⟩ : ∃ m, Db.cnt A (Db.get A a) n = m := ⟨_, rfl⟩
    obtain ⟨l, hl⟩ : ∃ l, l = Db.left A a n := ⟨_, rfl⟩
    obtain ⟨s, hs⟩ : ∃ s, Db.gsum A n = s := ⟨_, rfl⟩
    obtain ⟨t, ht⟩ : ∃ t, Db.gsum (fun j => A (Db.sel A (Db.get A a) n j) - Db.get A a (Db.sel A (Db.get A a) n j)) m = t := ⟨_, rfl⟩
    rw [hm] at hcr hgr hCr hAr hle
    rw [← hl] at hgg hlb
    rw [hs, ht, hgg] at hgr
    rw [hs] at hsb
    obtain ⟨l0, l1⟩ := hlb
    have s0 : 0 ≤ s := hsb.1
    have s1 : s ≤ 16000000000000 := by have := hsb.2; omega
    clear hsb hgg
    have hts : (t == s - (a - l)) = true := by simpa using hgr
    have t1 : t ≤ s := by omega
    have Hl := Lib.hid hl
    have Hm := Lib.hid hm
    have Hs := Lib.hid hs
    have Ht := Lib.hid ht
    have HA2 := Lib.hid hA2
    have HAr := Lib.hid hAr
    have HCr := Lib.hid hCr
    have Hcr := Lib.hid hcr
    have Hck := Lib.hid hck
    have Hpay := Lib.hid hpay
    have Ho := Lib.hid ho
    clear ho hck hl hm hs ht hA hA2 hAr hCr hcr hgr hpay
    go_enter Try.func13, Try.ntmps13
    go_wp2_with fail
    refine (offset_good hn9 h hC Ho.out).mono ?_
    rintro e w9 ⟨D1, c1, rfl, k1, hb⟩
    rw [← Hl.out]
    go_wp2_with fail
    refine (reduce_good hn9 (h.below hb) hC k1 Hck.out Hpay.out Hm.out).mono ?_
    rintro e w8 ⟨D2, c2, rfl, k2, hb8⟩
    replace hb := Below.on hb hb8
    clear hb8 k1
    go_wp2_with fail
    refine (dcheck_at (by omega) k2 HCr.out Hcr.out).mono ?_
    rintro e w7 ⟨rfl, hb7⟩
    replace k2 := k2.below hb7
    replace hb := Below.on hb hb7
    clear hb7
    go_wp2_with fail
    refine (sum_at (by omega) k2 HAr.out Ht.out).mono ?_
    rintro e w6 ⟨rfl, rfl⟩
    go_wp2_with fail
    refine (sum_at hn16 (h.below hb) HA2.out Hs.out).mono ?_
    rintro e w6 ⟨rfl, rfl⟩
    clear k2
    go_wp2_with fail
    refine (awake46 _).mono ?_
    rintro e w9 ⟨rfl, hb9⟩
    replace hb := Below.on hb hb9
    clear hb9
    go_wp2
    go_ret
    exact ⟨rfl, hb⟩
  · obtain ⟨y, hy⟩ : ∃ y, y = Db.oerr C R A n a := ⟨_, rfl⟩
    rw [← hy] at ho
    have Hy := Lib.hid hy
    clear hy
    go_enter Try.func13, Try.ntmps13
    go_wp2_with fail
    refine (offset_bad hn9 h hC Hy.out.symm ho).mono ?_
    rintro e w9 ⟨rfl, hb9⟩
    have hb := hb9
    clear hb9
    go_wp2_with fail
    refine (awake46 _).mono ?_
    rintro e w9 ⟨rfl, hb9⟩
    replace hb := Below.on hb hb9
    clear hb9
    go_wp2
    go_ret
    exact ⟨rfl, hb⟩
end Go.Proofs.Ytjjilnipmoanlaa
