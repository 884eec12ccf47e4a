/- The walks of debt.Reduce and of its reference. -/
import Derived.Test.YtjjilnipmoanlaaDebtOffset
import Derived.StillTailTactics
set_option linter.unusedVariables false
namespace Go.Proofs.Ytjjilnipmoanlaa
open Go.RowKit

theorem Try.infoDebt : (Try.prog.info? 46).map (fun i => (i.zero, i.size, i.bytes)) = some (some (.agg #[.string ByteArray.empty, .int .i64 0, .int .i64 0]), 3, 32) := by kernel_rfl

/-- The debts that are left behind the first k payments. -/
def Rest (C : Nat → ByteArray) (R A P : Nat → Int) (k : Nat) : Nat → Value :=
  Three (fun j => C (Db.sel A P k j)) (fun j => R (Db.sel A P k j)) (fun j => A (Db.sel A P k j) - P (Db.sel A P k j))
def restRow (C : Nat → ByteArray) (R A P : Nat → Int) (k : Nat) : List Value := row (Db.cnt A P k * 3) (Rest C R A P k)
theorem restRow_yes {C : Nat → ByteArray} {R A P : Nat → Int} {k : Nat} (h : P k < A k) :
    restRow C R A P (k + 1) = restRow C R A P k ++ [.string (C k), .int .i64 (R k), .int .i64 (A k - P k)] := by
  unfold restRow
  rw [Db.cnt_yes h, show (Db.cnt A P k + 1) * 3 = Db.cnt A P k * 3 + 3 by omega, row_three]
  unfold Rest
  rw [Three_at0, Three_at1, Three_at2, Db.sel_new h]
  congr 1
  refine row_congr fun j hj => ?_
  unfold Three
  simp only [Db.sel_old (show j / 3 < Db.cnt A P k by omega)]
theorem restRow_no {C : Nat → ByteArray} {R A P : Nat → Int} {k : Nat} (h : ¬ P k < A k) : restRow C R A P (k + 1) = restRow C R A P k := by
  unfold restRow Rest
  rw [Db.cnt_no h]
  simp only [Db.sel_no h]

theorem reduce_err {D E : Option Addr} {n c m c2 : Nat} {C : Nat → ByteArray} {R A P : Nat → Int} {y : Int} {w : World} (hn : n ≤ 9223372036854775807) (h : Cells w D (n * 3) (Three C R A)) (hC : ∀ i, i < n → (C i).size ≤ maxLen) (hy : Db.chk C R A n = y) (h0 : y ≠ 0) :
    Calls Try.prog 32 #[.slice D n c, .slice E m c2] w fun e w' => e = .returned (.tuple #[.slice none 0 0, .int .i64 y]) ∧ Below w.heap.size w w' := by
  have Hy := Lib.hid hy
  clear hy
  go_enter Try.func32, Try.ntmps32
  go_wp2_with fail
  refine (dcheck_at hn h hC Hy.out).mono ?_
  rintro e w1 ⟨rfl, hb1⟩
  go_wp2
  go_ret2
  exact ⟨rfl, hb1⟩
theorem reduce_len {D E : Option Addr} {n c m c2 : Nat} {C : Nat → ByteArray} {R A P : Nat → Int} {w : World} (hn : n ≤ 9223372036854775807) (hm : m ≤ 9223372036854775807) (h : Cells w D (n * 3) (Three C R A)) (hC : ∀ i, i < n → (C i).size ≤ maxLen) (hy : Db.chk C R A n = 0) (h0 : m ≠ n) :
    Calls Try.prog 32 #[.slice D n c, .slice E m c2] w fun e w' => e = .returned (.tuple #[.slice none 0 0, .int .i64 3]) ∧ Below w.heap.size w w' := by
  have Hy := Lib.hid hy
  clear hy
  have hne : ((m : Int) != (n : Int)) = true := by simp; omega
  go_enter Try.func32, Try.ntmps32
  go_wp2_with fail
  refine (dcheck_at hn h hC Hy.out).mono ?_
  rintro e w1 ⟨rfl, hb1⟩
  go_wp2
  go_ret2
  exact ⟨rfl, hb1⟩

set_option maxHeartbeats 2000000 in
theorem reduce_any {D E : Option Addr} {n c c2 : Nat} {C : Nat → ByteArray} {R A P : Nat → Int} {w : World} (hn : n ≤ 9223372036854775807) (h : Cells w D (n * 3) (Three C R A)) (hC : ∀ i, i < n → (C i).size ≤ maxLen) (hy : Db.chk C R A n = 0) (hP : Cells w E (n * 1) (Ints P)) :
    Calls Try.prog 32 #[.slice D n c, .slice E n c2] w fun e w' => Below w.heap.size w w' ∧
      ((Db.payOk A P n = true ∧ ∃ D' c', e = .returned (.tuple #[.slice D' (Db.cnt A P n) c', .int .i64 0]) ∧ Cells w' D' (Db.cnt A P n * 3) (Rest C R A P n)) ∨
       (Db.payOk A P n = false ∧ e = .returned (.tuple #[.slice none 0 0, .int .i64 2]))) := by
  obtain ⟨i0, hi, hz0, hz1, hz2⟩ := info_parts Try.infoDebt
  have hn16 := (Db.of_chk hy).1
  have Hy := Lib.hid hy
  clear hy
  have heq : ((n : Int) != (n : Int)) = false := by simp
  go_enter Try.func32, Try.ntmps32
  go_wp2_with fail
  refine (dcheck_at hn h hC Hy.out).mono ?_
  rintro e w1 ⟨rfl, hb1⟩
  have hsz1 := hb1.size
  go_wp2_with (at_make; refine wpList_make_own _ rfl _ _ 34 rfl w.heap.size 46 i0 (.agg #[.string ByteArray.empty, .int .i64 0, .int .i64 0]) 3 Try.underlying34 hi hz0 hz1 _ _ _ n rfl rfl rfl ?c1 ?c2 ?c3 ?_)
  case c1 => rw [hz2]; omega
  case c2 => unfold maxLen; omega
  case c3 => omega
  intro w2 hown2 hgr2
  have hb2 : Below w.heap.size w w2 := hb1.grown hgr2 hsz1 (by simp)
  clear hgr2
  go_wp2
  go_loopw [7, 25] (fun v i wr => ∃ k : Nat, k ≤ n ∧ i = .int .i64 k ∧ wr.ownsRow w.heap.size 46 3 v (Db.cnt A P k) (restRow C R A P k) ∧ Db.payOk A P k = true ∧ Below w.heap.size w wr) (fun _ i _ => n - (intOf i).toNat)
  case atStart => exact ⟨0, Nat.zero_le _, rfl, hown2, rfl, hb2⟩
  case round =>
    obtain ⟨k, hk, rfl, hown, hpay, hbw⟩ := hrel
    have HPay := Lib.hid hpay
    clear hpay
    have hszr := hbw.size
    by_cases hkn : k < n
    · obtain ⟨b, off, rfl, hlt, hc0, hc1, hc2⟩ := (h.below hbw).three hkn
      obtain ⟨b', off', rfl, hlt', hp⟩ := (hP.below hbw).one hkn
      have hA := (Db.ok_in Hy.out hkn).2.2
      obtain ⟨hA1, hA2⟩ := hA
      by_cases hp0 : P k < 0
      · have Hno := Lib.hid (Db.payOk_no (A := A) hkn (.inl hp0))
        have d1 : decide (P k < 0) = true := decide_eq_true hp0
        have HB := Lib.hid (hbw.alloc hszr (.cells #[.string (C k), .int .i64 (R k), .int .i64 (A k)] 46))
        clear hown hbw
        go_wp2
        go_quiet (fail)
        go_wp2
        go_ret2
        exact ⟨below_drewN HB.out _, .inr ⟨Hno.out, rfl⟩⟩
      · have d1 : decide (P k < 0) = false := decide_eq_false hp0
        by_cases hp1 : A k < P k
        · have Hno := Lib.hid (Db.payOk_no (A := A) hkn (.inr hp1))
          have d2 : decide (A k < P k) = true := decide_eq_true hp1
          have HB := Lib.hid (hbw.alloc hszr (.cells #[.string (C k), .int .i64 (R k), .int .i64 (A k)] 46))
          clear hown hbw
          go_wp2
          go_quiet (fail)
          go_wp2
          go_ret2
          exact ⟨below_drewN HB.out _, .inr ⟨Hno.out, rfl⟩⟩
        · have d2 : decide (A k < P k) = false := decide_eq_false hp1
          have Hpn := Lib.hid (show Db.payOk A P (k + 1) = true by simp only [Db.payOk, HPay.out, Bool.true_and, Bool.and_eq_true, decide_eq_true_eq]; omega)
          by_cases hps : P k < A k
          · have Hrow := Lib.hid (restRow_yes (C := C) (R := R) hps)
            have Hcnt := Lib.hid (Db.cnt_yes hps)
            have hcl := Db.cnt_le A P k
            go_wp2
            go_quiet (fail)
            go_wp2
            go_region
            go_wp2_with (at_builtin; refine wpList_append_own _ rfl _ _ 34 rfl w.heap.size 46 i0 (.agg #[.string ByteArray.empty, .int .i64 0, .int .i64 0]) 3 32 Try.underlying34 hi hz0 hz1 hz2 rfl (by decide) _ _ _ rfl ((own_keep hown ((below_drewN ((Below.refl wr.heap.size wr).alloc (Nat.le_refl _) _) _).setCell (p := ⟨wr.heap.size, 2, none⟩) (Nat.le_refl _) _)).alloc _) ⟨wr.heap.size + 1, 0, none⟩ 1 1 [.string (C k), .int .i64 (R k), .int .i64 (A k - P k)] rfl rfl ?c1 ?c2 ?c3 ?c4 ?c5 ?_)
            case c1 =>
              intro j u hj
              exact new_cell (by simp) (by simpa using hj)
            case c2 => intro u hu; simp at hu; rcases hu with rfl | rfl | rfl <;> rfl
            case c3 => unfold maxLen; omega
            case c4 => omega
            case c5 => simp; omega
            intro v' w3 hown' hgrow _
            have hbW := (below_drewN ((Below.refl wr.heap.size wr).alloc (Nat.le_refl _) (.cells #[.string (C k), .int .i64 (R k), .int .i64 (A k)] 46)) (nq + 1)).setCell (p := ⟨wr.heap.size, 2, none⟩) (Nat.le_refl _) (.int .i64 (A k - P k))
            have hb3 := own_below ((hbw.trans (hbW.mono hszr)).alloc (Nat.le_trans hszr hbW.size) (.cells #[.string (C k), .int .i64 (R k), .int .i64 (A k - P k)] 46)) ((own_keep hown hbW).alloc _) (by have := hbW.size; simp; omega) hgrow
            have hown3 : w3.ownsRow w.heap.size 46 3 v' (Db.cnt A P (k + 1)) (restRow C R A P (k + 1)) := by
              rw [Hrow.out, Hcnt.out]
              exact hown'
            clear hown' hgrow hown hbw hbW
            go_wp2
            go_roundw
            case rel => exact ⟨k + 1, by omega, by go_num, hown3, Hpn.out, hb3⟩
            case measure => simp [intOf]; omega
          · have Hrow := Lib.hid (restRow_no (C := C) (R := R) hps)
            have Hcnt := Lib.hid (Db.cnt_no hps)
            have d3 : A k - P k ≤ 0 := by omega
            have hbW := fun n u => (below_drewN ((Below.refl wr.heap.size wr).alloc (Nat.le_refl _) (.cells #[.string (C k), .int .i64 (R k), .int .i64 (A k)] 46)) n).setCell (p := ⟨wr.heap.size, 2, none⟩) (Nat.le_refl _) u
            have HBW := Lib.hid hbW
            have HO := Lib.hid hown
            have HB := Lib.hid hbw
            clear hbW hown hbw
            go_wp2
            go_quiet (fail)
            go_wp2
            go_region
            go_wp2
            go_roundw
            case rel =>
              refine ⟨k + 1, by omega, by go_num, ?_, Hpn.out, HB.out.trans ((HBW.out _ _).mono hszr)⟩
              rw [Hrow.out, Hcnt.out]
              exact own_keep HO.out (HBW.out _ _)
            case measure => simp [intOf]; omega
    · obtain rfl : k = n := by omega
      obtain ⟨D', c', rfl, _⟩ := own_slice hown
      have HC := Lib.hid (Cells.of_own hown)
      have HB := Lib.hid hbw
      clear hown hbw
      go_wp2
      go_ret2
      exact ⟨HB.out, .inl ⟨HPay.out, D', c', rfl, HC.out⟩⟩
end Go.Proofs.Ytjjilnipmoanlaa
