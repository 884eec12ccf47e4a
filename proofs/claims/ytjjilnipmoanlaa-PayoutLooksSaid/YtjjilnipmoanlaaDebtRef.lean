/- The walks of the reference's Offset and Reduce, and of the comparisons of results. -/
import Derived.Test.YtjjilnipmoanlaaDebtReduce
import Derived.Deep.RegionHeld3
set_option linter.unusedVariables false
namespace Go.Proofs.Ytjjilnipmoanlaa
open Go.RowKit

theorem refOffset_err {D : Option Addr} {n c : Nat} {C : Nat → ByteArray} {R A : Nat → Int} {y a : Int} {w : World} (hn : n ≤ 9223372036854775807) (h : Cells w D (n * 3) (Three C R A)) (hC : ∀ i, i < n → (C i).size ≤ maxLen) (hy : Db.chk C R A n = y) (h0 : y ≠ 0) :
    Calls Try.prog 28 #[.slice D n c, .int .i64 a] w fun e w' => e = .returned (.tuple #[.slice none 0 0, .int .i64 0, .int .i64 y]) ∧ Below w.heap.size w w' := by
  have Hy := Lib.hid hy
  clear hy
  go_enter Try.func28, Try.ntmps28
  go_wp2_with fail
  refine (refDcheck_at hn h hC Hy.out).mono ?_
  rintro e w1 ⟨rfl, hb1⟩
  go_wp2
  go_ret3
  exact ⟨rfl, hb1⟩
theorem refOffset_range {D : Option Addr} {n c : Nat} {C : Nat → ByteArray} {R A : Nat → Int} {a : Int} {w : World} (hn : n ≤ 9223372036854775807) (h : Cells w D (n * 3) (Three C R A)) (hC : ∀ i, i < n → (C i).size ≤ maxLen) (hy : Db.chk C R A n = 0) (h0 : a < 0 ∨ 1000000000000 < a) :
    Calls Try.prog 28 #[.slice D n c, .int .i64 a] w fun e w' => e = .returned (.tuple #[.slice none 0 0, .int .i64 0, .int .i64 2]) ∧ Below w.heap.size w w' := by
  have Hy := Lib.hid hy
  have H0 := Lib.hid h0
  clear hy h0
  go_enter Try.func28, Try.ntmps28
  go_wp2_with fail
  refine (refDcheck_at hn h hC Hy.out).mono ?_
  rintro e w1 ⟨rfl, hb1⟩
  go_wp2_with fail
  refine (refValid_no _ _ H0.out).mono ?_
  rintro e w2 ⟨rfl, rfl⟩
  go_wp2
  go_ret3
  exact ⟨rfl, hb1⟩
set_option maxHeartbeats 1000000 in
theorem refOffset_fresh {D : Option Addr} {n c : Nat} {C : Nat → ByteArray} {R A : Nat → Int} {a : Int} {w : World} (hn : n ≤ 9223372036854775807) (h : Cells w D (n * 3) (Three C R A)) (hC : ∀ i, i < n → (C i).size ≤ maxLen) (hy : Db.chk C R A n = 0) (h0 : 0 ≤ a) (h1 : a ≤ 1000000000000) :
    Calls Try.prog 28 #[.slice D n c, .int .i64 a] w fun e w' => ∃ D' c', e = .returned (.tuple #[.slice D' n c', .int .i64 (Db.left A a n), .int .i64 0]) ∧ Cells w' D' (n * 1) (Ints (Db.get A a)) ∧ Below w.heap.size w w' ∧ Fresh w.heap.size D' := by
  obtain ⟨i0, hi, hz0, hz1, hz2⟩ := info_parts Try.info3
  have hn16 := (Db.of_chk hy).1
  have Hy := Lib.hid hy
  clear hy
  go_enter Try.func28, Try.ntmps28
  go_wp2_with fail
  refine (refDcheck_at hn h hC Hy.out).mono ?_
  rintro e w1 ⟨rfl, hb1⟩
  go_wp2_with fail
  refine (refValid_yes _ _ h0 h1).mono ?_
  rintro e w2 ⟨rfl, rfl⟩
  go_wp2
  go_loopw [1, 8, 9] (fun am v i wr => ∃ k : Nat, k ≤ n ∧ i = .int .i64 k ∧ am = .int .i64 (Db.left A a k) ∧ wr.ownsRow w.heap.size 3 1 v k (row (k * 1) (Ints (Db.get A a))) ∧ Below w.heap.size w wr) (fun _ _ i _ => n - (intOf i).toNat)
  case atStart => exact ⟨0, Nat.zero_le _, rfl, rfl, World.ownsRow_nil _ _ _ _, hb1⟩
  case round =>
    obtain ⟨k, hk, rfl, rfl, hown, hbw⟩ := hrel
    have hszr := hbw.size
    by_cases hkn : k < n
    · obtain ⟨b, off, rfl, hlt, _, _, hc2⟩ := (h.below hbw).three hkn
      have hlb := Db.left_bounds h0 (fun i hi => (Db.ok_in Hy.out hi).2.2.1) k hk
      have hA1 := (Db.ok_in Hy.out hkn).2.2.1
      have hA2 := (Db.ok_in Hy.out hkn).2.2.2
      obtain ⟨l, hl⟩ : ∃ l, l = Db.left A a k := ⟨_, rfl⟩
      rw [← hl] at hlb ⊢
      have HL := Lib.hid hl
      clear hl
      by_cases hlx : l < A k
      · have Hg := Lib.hid (show Db.get A a k = l by unfold Db.get; rw [← HL.out]; omega)
        have Hl1 := Lib.hid (show Db.left A a (k + 1) = l - l by rw [Db.left_succ, Hg.out, ← HL.out])
        go_wp2_with (at_builtin; refine wpList_append_own _ rfl _ _ 35 rfl w.heap.size 3 i0 (.int .i64 0) 1 8 Try.underlying35 hi hz0 hz1 hz2 rfl (by decide) _ _ _ rfl (hown.alloc _) ⟨wr.heap.size, 0, none⟩ 1 1 [.int .i64 l] rfl rfl ?c1 ?c2 ?c3 ?c4 ?c5 ?_)
        try case c1 => intro j u hj; exact new_cell rfl (by simpa using hj)
        case c2 => intro u hu; simp at hu; subst hu; rfl
        case c3 => unfold maxLen; omega
        case c4 => omega
        case c5 => simp; omega
        intro v' w3 hown' hgrow _
        have hb3 := own_below (hbw.alloc hszr (.cells #[.int .i64 l] 3)) (hown.alloc _) (by simp; omega) hgrow
        have hown3 : w3.ownsRow w.heap.size 3 1 v' (k + 1) (row ((k + 1) * 1) (Ints (Db.get A a))) := by
          rw [Nat.mul_one, row_one, Ints_at, Hg.out]
          exact hown'
        clear hown' hgrow hown hbw
        go_wp2
        go_roundw
        case rel => exact ⟨k + 1, by omega, by go_num, by rw [Hl1.out]; go_num, hown3, hb3⟩
        case measure => simp [intOf]; omega
      · have Hg := Lib.hid (show Db.get A a k = A k by unfold Db.get; rw [← HL.out]; omega)
        have Hl1 := Lib.hid (show Db.left A a (k + 1) = l - A k by rw [Db.left_succ, Hg.out, ← HL.out])
        go_wp2_with (at_builtin; refine wpList_append_own _ rfl _ _ 35 rfl w.heap.size 3 i0 (.int .i64 0) 1 8 Try.underlying35 hi hz0 hz1 hz2 rfl (by decide) _ _ _ rfl (hown.alloc _) ⟨wr.heap.size, 0, none⟩ 1 1 [.int .i64 (A k)] rfl rfl ?e1 ?e2 ?e3 ?e4 ?e5 ?_)
        try case e1 => intro j u hj; exact new_cell rfl (by simpa using hj)
        case e2 => first | rfl | (intro u hu; simp at hu; subst hu; rfl)
        case e3 => unfold maxLen; omega
        case e4 => omega
        case e5 => first | omega | (simp; omega)
        intro v' w3 hown' hgrow _
        have hb3 := own_below (hbw.alloc hszr (.cells #[.int .i64 (A k)] 3)) (hown.alloc _) (by simp; omega) hgrow
        have hown3 : w3.ownsRow w.heap.size 3 1 v' (k + 1) (row ((k + 1) * 1) (Ints (Db.get A a))) := by
          rw [Nat.mul_one, row_one, Ints_at, Hg.out]
          exact hown'
        clear hown' hgrow hown hbw
        go_wp2
        go_roundw
        case rel => exact ⟨k + 1, by omega, by go_num, by rw [Hl1.out], hown3, hb3⟩
        case measure => simp [intOf]; omega
    · obtain rfl : k = n := by omega
      obtain ⟨D', c', rfl, _⟩ := own_slice hown
      have HC := Lib.hid (Cells.of_own hown)
      have HF := Lib.hid (Fresh.of_own hown)
      have HB := Lib.hid hbw
      clear hown hbw
      go_wp2
      go_ret3
      exact ⟨D', c', rfl, HC.out, HB.out, HF.out⟩

theorem refOffset_ok {D : Option Addr} {n c : Nat} {C : Nat → ByteArray} {R A : Nat → Int} {a : Int} {w : World} (hn : n ≤ 9223372036854775807) (h : Cells w D (n * 3) (Three C R A)) (hC : ∀ i, i < n → (C i).size ≤ maxLen) (hy : Db.chk C R A n = 0) (h0 : 0 ≤ a) (h1 : a ≤ 1000000000000) :
    Calls Try.prog 28 #[.slice D n c, .int .i64 a] w fun e w' => ∃ D' c', e = .returned (.tuple #[.slice D' n c', .int .i64 (Db.left A a n), .int .i64 0]) ∧ Cells w' D' (n * 1) (Ints (Db.get A a)) ∧ Below w.heap.size w w' :=
  (refOffset_fresh hn h hC hy h0 h1).mono fun _ _ ⟨D', c', he, hc, hb, _⟩ => ⟨D', c', he, hc, hb⟩

theorem refReduce_err {D E : Option Addr} {n c m c2 : Nat} {C : Nat → ByteArray} {R A P : Nat → Int} {y : Int} {w : World} (hn : n ≤ 9223372036854775807) (h : Cells w D (n * 3) (Three C R A)) (hC : ∀ i, i < n → (C i).size ≤ maxLen) (hy : Db.chk C R A n = y) (h0 : y ≠ 0) :
    Calls Try.prog 33 #[.slice D n c, .slice E m c2] w fun e w' => e = .returned (.tuple #[.slice none 0 0, .int .i64 y]) ∧ Below w.heap.size w w' := by
  have Hy := Lib.hid hy
  clear hy
  go_enter Try.func33, Try.ntmps33
  go_wp2_with fail
  refine (refDcheck_at hn h hC Hy.out).mono ?_
  rintro e w1 ⟨rfl, hb1⟩
  go_wp2
  go_ret2
  exact ⟨rfl, hb1⟩
theorem refReduce_len {D E : Option Addr} {n c m c2 : Nat} {C : Nat → ByteArray} {R A P : Nat → Int} {w : World} (hn : n ≤ 9223372036854775807) (hm : m ≤ 9223372036854775807) (h : Cells w D (n * 3) (Three C R A)) (hC : ∀ i, i < n → (C i).size ≤ maxLen) (hy : Db.chk C R A n = 0) (h0 : m ≠ n) :
    Calls Try.prog 33 #[.slice D n c, .slice E m c2] w fun e w' => e = .returned (.tuple #[.slice none 0 0, .int .i64 3]) ∧ Below w.heap.size w w' := by
  have Hy := Lib.hid hy
  clear hy
  have hne : ((m : Int) != (n : Int)) = true := by simp; omega
  go_enter Try.func33, Try.ntmps33
  go_wp2_with fail
  refine (refDcheck_at hn h hC Hy.out).mono ?_
  rintro e w1 ⟨rfl, hb1⟩
  go_wp2
  go_ret2
  exact ⟨rfl, hb1⟩

set_option maxHeartbeats 2000000 in
theorem refReduce_any {D E : Option Addr} {n c c2 : Nat} {C : Nat → ByteArray} {R A P : Nat → Int} {w : World} (hn : n ≤ 9223372036854775807) (h : Cells w D (n * 3) (Three C R A)) (hC : ∀ i, i < n → (C i).size ≤ maxLen) (hy : Db.chk C R A n = 0) (hP : Cells w E (n * 1) (Ints P)) :
    Calls Try.prog 33 #[.slice D n c, .slice E n c2] w fun e w' => Below w.heap.size w w' ∧
      ((Db.payOk A P n = true ∧ ∃ D' c', e = .returned (.tuple #[.slice D' (Db.cnt A P n) c', .int .i64 0]) ∧ Cells w' D' (Db.cnt A P n * 3) (Rest C R A P n)) ∨
       (Db.payOk A P n = false ∧ e = .returned (.tuple #[.slice none 0 0, .int .i64 2]))) := by
  obtain ⟨i0, hi, hz0, hz1, hz2⟩ := info_parts Try.infoDebt
  have hn16 := (Db.of_chk hy).1
  have Hy := Lib.hid hy
  clear hy
  have heq : ((n : Int) != (n : Int)) = false := by simp
  go_enter Try.func33, Try.ntmps33
  go_wp2_with fail
  refine (refDcheck_at hn h hC Hy.out).mono ?_
  rintro e w1 ⟨rfl, hb1⟩
  have hsz1 := hb1.size
  go_wp2
  go_loopw [7, 8] (fun v i wr => ∃ k : Nat, k ≤ n ∧ i = .int .i64 k ∧ wr.ownsRow w.heap.size 46 3 v (Db.cnt A P k) (restRow C R A P k) ∧ Db.payOk A P k = true ∧ Below w.heap.size w wr) (fun _ i _ => n - (intOf i).toNat)
  case atStart => exact ⟨0, Nat.zero_le _, rfl, World.ownsRow_nil _ _ _ _, rfl, hb1⟩
  case round =>
    obtain ⟨k, hk, rfl, hown, hpay, hbw⟩ := hrel
    have HPay := Lib.hid hpay
    clear hpay
    have hszr := hbw.size
    by_cases hkn : k < n
    · obtain ⟨b, off, rfl, hlt, q0, q1, q2⟩ := h.three hkn
      obtain ⟨b', off', rfl, hlt', q3⟩ := hP.one hkn
      have hc0 := (hbw.cell (p := ⟨b, off + k * 3, none⟩) hlt).trans q0
      have hc1 := (hbw.cell (p := ⟨b, off + k * 3 + 1, none⟩) hlt).trans q1
      have hc2 := (hbw.cell (p := ⟨b, off + k * 3 + 2, none⟩) hlt).trans q2
      have hp := (hbw.cell (p := ⟨b', off' + k, none⟩) hlt').trans q3
      clear q0 q1 q2 q3
      have hA := (Db.ok_in Hy.out hkn).2.2
      obtain ⟨hA1, hA2⟩ := hA
      by_cases hp0 : P k < 0
      · have Hno := Lib.hid (Db.payOk_no (A := A) hkn (.inl hp0))
        have d1 : decide (P k < 0) = true := decide_eq_true hp0
        have HB := Lib.hid hbw
        clear hown hbw
        go_wp2
        go_quiet (fail)
        go_wp2
        go_ret2
        exact ⟨below_drewN HB.out _, .inr ⟨Hno.out, rfl⟩⟩
      · have d1 : decide (P k < 0) = false := decide_eq_false hp0
        by_cases hp1 : A k < P k
        · have Hno := Lib.hid (Db.payOk_no (A := A) hkn (.inr hp1))
          have d2 : decide (A k < P k) = true := decide_eq_true hp1
          have HB := Lib.hid hbw
          clear hown hbw
          go_wp2
          go_quiet (fail)
          go_wp2
          go_ret2
          exact ⟨below_drewN HB.out _, .inr ⟨Hno.out, rfl⟩⟩
        · have d2 : decide (A k < P k) = false := decide_eq_false hp1
          have Hpn := Lib.hid (show Db.payOk A P (k + 1) = true by simp only [Db.payOk, HPay.out, Bool.true_and, Bool.and_eq_true, decide_eq_true_eq]; omega)
          by_cases hps : P k < A k
          · have Hrow := Lib.hid (restRow_yes (C := C) (R := R) hps)
            have Hcnt := Lib.hid (Db.cnt_yes hps)
            have hcl := Db.cnt_le A P k
            have HO := Lib.hid hown
            have HB := Lib.hid hbw
            clear hown hbw
            go_wp2
            go_quiet (fail)
            go_wp2
            go_quiet (fail)
            go_wp2
            have hwr : IntKind.i64.wrap (A k - P k) = A k - P k := IntWalk.i64_in _ (by omega)
            go_region_held3 (fun w' => w'.cell? ⟨b, off + k * 3, none⟩ = some (.string (C k)) ∧ w'.cell? ⟨b, off + k * 3 + 1, none⟩ = some (.int .i64 (R k)) ∧ w'.cell? ⟨b, off + k * 3 + 2, none⟩ = some (.int .i64 (A k)) ∧ w'.cell? ⟨b', off' + k, none⟩ = some (.int .i64 (P k)))
              (first
                | go_keep
                | (go_split_ands
                   refine ⟨?_, ?_, ?_, ?_⟩
                   · (rw [hgrow.cell_far _ (by simp; omega) (own_off HO.out (by omega))]; assumption)
                   · (rw [hgrow.cell_far _ (by simp; omega) (own_off HO.out (by omega))]; assumption)
                   · (rw [hgrow.cell_far _ (by simp; omega) (own_off HO.out (by omega))]; assumption)
                   · (rw [hgrow.cell_far _ (by simp; omega) (own_off HO.out (by omega))]; assumption)))
              ((refine step_append_lies _ (by rfl) _ _ _ (by rfl) w.heap.size 46 i0 _ 3 32 Try.underlying34 hi hz0 hz1 hz2 rfl (by omega) _ (Db.cnt A P k) (restRow C R A P k) (by rfl) (own_keep HO.out ((below_drewN (Below.refl wr.heap.size wr) _).alloc (Nat.le_refl _) _))
                  ⟨wr.heap.size, 0, none⟩ 1 1 [.string (C k), .int .i64 (R k), .int .i64 (A k - P k)] (by rfl) (by rfl) (fun j u hu => new_cell rfl (by simpa using hu)) (by simp [Value.oneCell'])
                  (by omega) (by unfold maxLen; omega) (by omega) (by simp; omega) (wr.heap.size + 1) (by simp) ?_; intro gg cap w3 hown' hgrow hat hlt3))
            have hb3 := own_below ((below_drewN HB.out _).alloc hszr _) (own_keep HO.out ((below_drewN (Below.refl wr.heap.size wr) _).alloc (Nat.le_refl _) _)) (by simp; omega) hgrow
            have hown3 : w3.ownsRow w.heap.size 46 3 (.slice (some ⟨gg, 0, none⟩) (Db.cnt A P k + 1) cap) (Db.cnt A P (k + 1)) (restRow C R A P (k + 1)) := by
              rw [Hrow.out, Hcnt.out]
              exact hown'
            clear hown' hgrow hat hlt3 HO HB
            go_wp2
            go_roundw
            case rel => exact ⟨k + 1, by omega, by go_num, hown3, Hpn.out, hb3⟩
            case measure => simp [intOf]; omega
          · have Hrow := Lib.hid (restRow_no (C := C) (R := R) hps)
            have Hcnt := Lib.hid (Db.cnt_no hps)
            have HO := Lib.hid hown
            have HB := Lib.hid hbw
            clear hown hbw
            have d3 : decide (P k < A k) = false := decide_eq_false hps
            go_wp2
            go_quiet (fail)
            go_wp2
            go_quiet (fail)
            go_wp2
            go_roundw
            case rel =>
              refine ⟨k + 1, by omega, by go_num, ?_, Hpn.out, below_drewN HB.out _⟩
              rw [Hrow.out, Hcnt.out]
              exact own_keep HO.out (below_drewN (Below.refl wr.heap.size wr) _)
            case measure => simp [intOf]; omega
    · obtain rfl : k = n := by omega
      obtain ⟨D', c', rfl, _⟩ := own_slice hown
      have HC := Lib.hid (Cells.of_own hown)
      have HB := Lib.hid hbw
      clear hown hbw
      go_wp2
      go_ret2
      exact ⟨HB.out, .inl ⟨HPay.out, D', c', rfl, HC.out⟩⟩

/-- The law's own comparison of lists: of equal ones it returns true. -/
theorem same_yes {D E : Option Addr} {n c c2 : Nat} {G : Nat → Int} {w : World} (hn : n ≤ 9223372036854775807) (hD : Cells w D (n * 1) (Ints G)) (hE : Cells w E (n * 1) (Ints G)) :
    Calls Try.prog 31 #[.slice D n c, .slice E n c2] w fun e w' => e = .returned (.bool true) ∧ Below w.heap.size w w' := by
  have heq : ((n : Int) != (n : Int)) = false := by simp
  go_enter Try.func31, Try.ntmps31
  go_wp2
  go_loopw [13] (fun i wr => ∃ k : Nat, k ≤ n ∧ i = .int .i64 k ∧ Below w.heap.size w wr) (fun i _ => n - (intOf i).toNat)
  case atStart => exact ⟨0, Nat.zero_le _, rfl, Below.refl _ _⟩
  case round =>
    obtain ⟨k, hk, rfl, hbw⟩ := hrel
    by_cases hkn : k < n
    · obtain ⟨b, off, rfl, hlt, h1⟩ := (hD.below hbw).one hkn
      obtain ⟨b', off', rfl, hlt', h2⟩ := (hE.below hbw).one hkn
      have hg : (G k != G k) = false := by simp
      go_wp2
      go_quiet (fail)
      go_wp2
      go_roundw
      case rel => exact ⟨k + 1, by omega, by go_num, below_drewN hbw _⟩
      case measure => simp [intOf]; omega
    · go_wp2
      go_ret
      exact ⟨rfl, hbw⟩
theorem Same_yes {D E : Option Addr} {n c c2 : Nat} {C : Nat → ByteArray} {R A : Nat → Int} {w : World} (hn : n ≤ 9223372036854775807) (hD : Cells w D (n * 3) (Three C R A)) (hE : Cells w E (n * 3) (Three C R A)) :
    Calls Try.prog 34 #[.slice D n c, .slice E n c2] w fun e w' => e = .returned (.bool true) ∧ Below w.heap.size w w' := by
  have heq : ((n : Int) != (n : Int)) = false := by simp
  go_enter Try.func34, Try.ntmps34
  go_wp2
  go_loopw [5] (fun i wr => ∃ k : Nat, k ≤ n ∧ i = .int .i64 k ∧ Below w.heap.size w wr) (fun i _ => n - (intOf i).toNat)
  case atStart => exact ⟨0, Nat.zero_le _, rfl, Below.refl _ _⟩
  case round =>
    obtain ⟨k, hk, rfl, hbw⟩ := hrel
    by_cases hkn : k < n
    · obtain ⟨b, off, rfl, hlt, h0, h1, h2⟩ := (hD.below hbw).three hkn
      obtain ⟨b', off', rfl, hlt', g0, g1, g2⟩ := (hE.below hbw).three hkn
      have d1 : (R k != R k) = false := by simp
      have d2 : (A k != A k) = false := by simp
      go_wp2
      go_quiet (fail)
      go_wp2
      go_roundw
      case rel => exact ⟨k + 1, by omega, by go_num, below_drewN hbw _⟩
      case measure => simp [intOf]; omega
    · go_wp2
      go_ret
      exact ⟨rfl, hbw⟩
end Go.Proofs.Ytjjilnipmoanlaa
