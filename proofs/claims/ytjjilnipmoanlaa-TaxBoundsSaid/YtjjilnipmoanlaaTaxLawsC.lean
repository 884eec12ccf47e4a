/- The walk of the law TaxBounds. -/
import Derived.Test.YtjjilnipmoanlaaTaxAwake
import Derived.Test.YtjjilnipmoanlaaBase2
set_option linter.unusedVariables false
namespace Go.Proofs.Ytjjilnipmoanlaa
open Go.RowKit

theorem Two_at0 (F R : Nat → Int) (k : Nat) : Two F R (k * 2) = .int .i64 (F k) := by
  unfold Two; rw [if_pos (by omega), show k * 2 / 2 = k by omega]
theorem Two_at1 (F R : Nat → Int) (k : Nat) : Two F R (k * 2 + 1) = .int .i64 (R k) := by
  unfold Two; rw [if_neg (by omega), show (k * 2 + 1) / 2 = k by omega]
theorem Try.info32 : (Try.prog.info? 32).map (fun i => (i.zero, i.size, i.bytes)) = some (some (.agg #[.int .i64 0, .int .i64 0]), 2, 16) := by kernel_rfl

set_option maxHeartbeats 1000000 in
set_option maxRecDepth 100000 in
theorem taxBounds_walk (W : World) {A : Option Addr} {n c : Nat} {F R : Nat → Int} (hn : n ≤ c) (hc : c ≤ maxLen) (h : Cells W A (n * 2) (Two F R)) (hw : ∀ i, i < n → (Lit.int .i64 (F i)).wf = true ∧ (Lit.int .i64 (R i)).wf = true) (a : Int) (wa : (Lit.int .i64 a).wf = true) :
    Calls Try.prog 7 #[.slice A n c, .int .i64 a] W fun e w' => e = .returned (.bool true) ∧ Below W.heap.size W w' := by
  unfold maxLen at hc
  clear hw wa
  by_cases h8 : 8 < n ∨ a < 0 ∨ 1000000000000 < a
  · by_cases h4 : 8 < n
    · have H := Lib.hid h8
      clear h8
      go_enter Try.func7, Try.ntmps7
      go_wp2_with fail
      refine (awake45 _).mono ?_
      rintro e w9 ⟨rfl, hb⟩
      go_wp2
      go_ret
      exact ⟨rfl, hb⟩
    · by_cases h5 : a < 0
      · clear h8
        go_enter Try.func7, Try.ntmps7
        go_wp2_with fail
        refine (awake45 _).mono ?_
        rintro e w9 ⟨rfl, hb⟩
        go_wp2
        go_ret
        exact ⟨rfl, hb⟩
      · have h6 : 1000000000000 < a := by omega
        clear h8
        go_enter Try.func7, Try.ntmps7
        go_wp2_with fail
        refine (awake45 _).mono ?_
        rintro e w9 ⟨rfl, hb⟩
        go_wp2
        go_ret
        exact ⟨rfl, hb⟩
  have h4 : n ≤ 8 := by omega
  have h5 : 0 ≤ a := by omega
  have h6 : a ≤ 1000000000000 := by omega
  clear h8
  have HA := Lib.hid (Tx.all_of (F := seq2 0 0) (R := seq2 10000 0) rfl rfl h5 h6)
  have HN := Lib.hid (Tx.none_of (F := F) (R := R) h5 h6)
  obtain ⟨x, ea, hx, hea⟩ : ∃ x ea, x = Tx.val n F R a ∧ ea = Tx.err n F R a := ⟨_, _, rfl, rfl⟩
  have hc1 : Cells (W.alloc (.cells #[.int .i64 0, .int .i64 10000] 32)) (some ⟨W.heap.size, 0, none⟩) (1 * 2) (Two (seq2 0 0) (seq2 10000 0)) := Cells.lit rfl fun j hj => by
    match j, hj with
    | 0, _ => rfl
    | 1, _ => rfl
  have HC1 := Lib.hid hc1
  clear hc1
  have Hal := Lib.hid (Below.step (Below.refl _ W) (Nat.le_refl _) (.cells #[.int .i64 0, .int .i64 10000] 32))
  by_cases ha : ea = 0
  · subst ha
    obtain ⟨i0, hi, hz0, hz1, hz2⟩ := info_parts Try.info32
    have hbd := Tx.bounds_of hea.symm
    rw [← hx] at hbd
    obtain ⟨x0, x1, xz⟩ := hbd
    have Hxz := Lib.hid xz
    clear xz
    have HZ := Lib.hid (Tx.rate0_of hea.symm)
    have Hx := Lib.hid hx
    have Ha := Lib.hid hea
    clear hx hea
    go_enter Try.func7, Try.ntmps7
    go_wp2_with fail
    refine (tax_at (x := a) (y := 0) (by omega) HC1.out HA.out.2 HA.out.1).mono ?_
    rintro e w9 ⟨rfl, hb9⟩
    have hb := Hal.out.trans (hb9.mono Hal.out.size)
    clear hb9 HC1 Hal
    go_wp2_with fail
    refine (tax_at (n := 0) (F := F) (R := R) (x := 0) (y := 0) (by omega) Cells.nil HN.out.2 HN.out.1).mono ?_
    rintro e w9 ⟨rfl, hb9⟩
    replace hb := Below.on hb hb9
    clear hb9
    go_wp2_with fail
    refine (tax_at (x := x) (y := 0) (by omega) (h.below hb) Hx.out.symm Ha.out.symm).mono ?_
    rintro e w9 ⟨rfl, hb9⟩
    replace hb := Below.on hb hb9
    clear hb9
    go_wp2
    go_loopw [11, 12] (fun v i wr => ∃ k : Nat, k ≤ n ∧ i = .int .i64 k ∧ wr.ownsRow W.heap.size 32 2 v k (row (k * 2) (Two F (fun _ => 0))) ∧ Below W.heap.size W wr) (fun _ i _ => n - (intOf i).toNat)
    case atStart => exact ⟨0, Nat.zero_le _, rfl, World.ownsRow_nil _ _ _ _, hb⟩
    case round =>
      obtain ⟨k, hk, rfl, hown, hbw⟩ := hrel
      by_cases hkn : k < n
      · obtain ⟨b, off, rfl, hlt, hF, _⟩ := (h.below hbw).two hkn
        go_wp2_with (at_builtin; refine wpList_append_own _ rfl _ _ 22 rfl W.heap.size 32 i0 (.agg #[.int .i64 0, .int .i64 0]) 2 16 Try.underlying22 hi hz0 hz1 hz2 rfl (by decide) _ _ _ rfl (hown.alloc _) ⟨wr.heap.size, 0, none⟩ 1 1 [.int .i64 (F k), .int .i64 0] rfl rfl ?c1 ?c2 ?c3 ?c4 ?c5 ?_)
        case c1 =>
          intro j u hj
          match j, hj with
          | 0, hj => simp at hj; subst hj; simp [Addr.add]
          | 1, hj => simp at hj; subst hj; simp [Addr.add]
        case c2 => intro u hu; simp at hu; rcases hu with rfl | rfl <;> rfl
        case c3 => unfold maxLen; omega
        case c4 => omega
        case c5 => have := hbw.size; simp; omega
        intro v' w1 hown' hgrow _
        have hb1 := own_below (hbw.alloc hbw.size _) (hown.alloc _) (by have := hbw.size; simp; omega) hgrow
        have hown1 : w1.ownsRow W.heap.size 32 2 v' (k + 1) (row ((k + 1) * 2) (Two F (fun _ => 0))) := by
          rw [show (k + 1) * 2 = k * 2 + 2 by omega, row_two, Two_at0, Two_at1]
          exact hown'
        clear hown' hgrow hown
        go_wp2
        go_roundw
        case rel => exact ⟨k + 1, by omega, by go_num, hown1, hb1⟩
        case measure => simp [intOf]; omega
      · obtain rfl : n = k := by omega
        obtain ⟨A', c', rfl, _⟩ := own_slice hown
        have hz := Cells.of_own hown
        clear hown
        go_wp2_with fail
        refine (tax_at (x := 0) (y := 0) (by omega) hz HZ.out.2 HZ.out.1).mono ?_
        rintro e w9 ⟨rfl, hb9⟩
        clear hz
        replace hbw := Below.on hbw hb9
        clear hb9 hb
        by_cases hn0 : 0 < n
        · obtain ⟨b, off, rfl, hlt, hF, _⟩ := (h.below hbw).two hn0
          have hF0 : w9.cell? ⟨b, off, none⟩ = some (.int .i64 (F 0)) := by simpa using hF
          clear hF
          by_cases hF1 : F 0 < a
          · go_wp2_with fail
            refine (awake45 _).mono ?_
            rintro e w8 ⟨rfl, hb8⟩
            replace hbw := Below.on hbw hb8
            go_wp2
            go_ret
            exact ⟨rfl, hbw⟩
          · have hx0 : x = 0 := Hxz.out fun _ => by omega
            subst hx0
            go_wp2_with fail
            refine (awake45 _).mono ?_
            rintro e w8 ⟨rfl, hb8⟩
            replace hbw := Below.on hbw hb8
            go_wp2
            go_ret
            exact ⟨rfl, hbw⟩
        · have hx0 : x = 0 := Hxz.out fun _ => by omega
          subst hx0
          go_wp2_with fail
          refine (awake45 _).mono ?_
          rintro e w8 ⟨rfl, hb8⟩
          replace hbw := Below.on hbw hb8
          go_wp2
          go_ret
          exact ⟨rfl, hbw⟩
  · have hx0 : x = 0 := by rw [hx]; exact Tx.val_bad (by rw [← hea]; exact ha)
    have hc0 := Tx.chk_bad (by rw [← hea]; exact ha) h5 h6
    subst hx0
    obtain ⟨ch, hch⟩ : ∃ ch, ch = Tx.chk n F R := ⟨_, rfl⟩
    rw [← hch] at hc0
    have Hch := Lib.hid hch
    have Hx := Lib.hid hx
    have Ha := Lib.hid hea
    clear hx hea hch
    go_enter Try.func7, Try.ntmps7
    go_wp2_with fail
    refine (tax_at (x := a) (y := 0) (by omega) HC1.out HA.out.2 HA.out.1).mono ?_
    rintro e w9 ⟨rfl, hb9⟩
    have hb := Hal.out.trans (hb9.mono Hal.out.size)
    clear hb9 HC1 Hal
    go_wp2_with fail
    refine (tax_at (n := 0) (F := F) (R := R) (x := 0) (y := 0) (by omega) Cells.nil HN.out.2 HN.out.1).mono ?_
    rintro e w9 ⟨rfl, hb9⟩
    replace hb := Below.on hb hb9
    clear hb9
    go_wp2_with fail
    refine (tax_at (x := 0) (y := ea) (by omega) (h.below hb) Hx.out.symm Ha.out.symm).mono ?_
    rintro e w9 ⟨rfl, hb9⟩
    replace hb := Below.on hb hb9
    clear hb9
    go_wp2_with fail
    refine (check_at (y := ch) (by omega) (h.below hb) Hch.out.symm).mono ?_
    rintro e w9 ⟨rfl, hb9⟩
    replace hb := Below.on hb hb9
    clear hb9
    go_wp2_with fail
    refine (awake45 _).mono ?_
    rintro e w8 ⟨rfl, hb8⟩
    replace hb := Below.on hb hb8
    go_wp2
    go_ret
    exact ⟨ret_bool (by simpa using hc0), hb⟩
end Go.Proofs.Ytjjilnipmoanlaa
