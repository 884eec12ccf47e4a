/- The walk of the reference's Claim. -/
import Derived.Test.YtpalmlcepppifaaClmRef4
import Derived.Test.YtpalmlcepppifaaClmClaim
set_option linter.unusedVariables false
namespace Go.Proofs.Ytpalmlcepppifaa
open Go.RowKit Go.ChangeShapes

theorem rcheck_at {B : Nat} {w : World} {h n : Nat} {N : Nat → ByteArray} {A F E S : Nat → Int} (c : Refs B w h n N A F E S) {s : ByteArray} {at_ most u y : Int} (hu : Cm.ckV A F E S at_ most (idx N s n) = u) (hy : Cm.ckE A F E S at_ most (idx N s n) = y) :
    Calls Try.prog 59 #[.pointer (some ⟨h, 0, none⟩), .string s, .int .i64 at_, .int .i64 most] w fun e w' => e = .returned (.tuple #[.int .i64 u, .int .i64 y]) ∧ Below w.heap.size w w' := by
  subst hu hy; exact rcheck_any c
theorem rclaim_no {B : Nat} {w : World} {h n : Nat} {N : Nat → ByteArray} {A F E S : Nat → Int} (c : Refs B w h n N A F E S) (hBw : B ≤ w.heap.size) {s : ByteArray} {at_ most y : Int} (hy : Cm.ckE A F E S at_ most (idx N s n) = y) (hn : y ≠ 0) :
    Calls Try.prog 60 #[.pointer (some ⟨h, 0, none⟩), .string s, .int .i64 at_, .int .i64 most] w (FLeft B w h n N A F E S (.tuple #[.int .i64 0, .int .i64 y])) := by
  have hv : Cm.ckV A F E S at_ most (idx N s n) = 0 := by unfold Cm.ckV; rw [if_neg (by rw [hy]; exact hn)]
  have HV := Lib.hid hv
  have HY := Lib.hid hy
  have HC := Lib.hid c
  have hnb : (y != 0) = true := by simp [hn]
  clear hv hy c
  go_enter Try.func60, Try.ntmps60
  go_wp2_with fail
  refine (rcheck_at HC.out HV.out HY.out).mono ?_
  rintro e w1 ⟨rfl, hb1⟩
  have H1 := Lib.hid hb1
  clear hb1
  go_wp2
  go_ret2
  exact ⟨rfl, HC.out.keep H1.out, H1.out.mono hBw, Kr.old H1.out⟩

theorem idx_out {N : Nat → ByteArray} {s : ByteArray} {k : Nat} : ¬ k ∈ idx N s k := fun h => Nat.lt_irrefl _ (idx_lt h)
set_option maxHeartbeats 4000000 in
set_option maxRecDepth 100000 in
theorem rclaim_yes {B : Nat} {w : World} {h n : Nat} {N : Nat → ByteArray} {A F E S : Nat → Int} (c : Refs B w h n N A F E S) (hBw : B ≤ w.heap.size) {s : ByteArray} {at_ most u : Int} (hy : Cm.ckE A F E S at_ most (idx N s n) = 0) (hu : Cm.lsum (Cm.can F E S at_) A (idx N s n) = u) :
    Calls Try.prog 60 #[.pointer (some ⟨h, 0, none⟩), .string s, .int .i64 at_, .int .i64 most] w (FLeft B w h n N A F E (Cm.payS F E S at_ (idx N s n)) (.tuple #[.int .i64 u, .int .i64 0])) := by
  have hv : Cm.ckV A F E S at_ most (idx N s n) = u := by unfold Cm.ckV; rw [if_pos hy, hu]
  have HV := Lib.hid hv
  have HY := Lib.hid hy
  have HC := Lib.hid c
  clear hv hy hu c
  go_enter Try.func60, Try.ntmps60
  go_wp2_with fail
  refine (rcheck_at HC.out HV.out HY.out).mono ?_
  rintro e w1 ⟨rfl, hb1⟩
  have hc1 := HC.out.keep hb1
  have HC1 := Lib.hid hc1
  have HB1 := Lib.hid (show Below B w w1 ∧ Kr w w1 from ⟨hb1.mono hBw, Kr.old hb1⟩)
  have hB1w : B ≤ w1.heap.size := Nat.le_trans hBw hb1.size
  clear hb1 HV HY
  obtain ⟨pv, c⟩ := hc1
  have hn8 := c.n8
  clear c
  go_wp2
  go_loopw [12] (fun i wr => ∃ k : Nat, k ≤ n ∧ i = .int .i64 k ∧ Refs B wr h n N A F E (Cm.payS F E S at_ (idx N s k)) ∧ (Below B w1 wr ∧ Kr w1 wr)) (fun i _ => n - (intOf i).toNat)
  case atStart => exact ⟨0, Nat.zero_le _, rfl, by rw [show idx N s 0 = [] from rfl, Cm.payS_nil]; exact HC1.out, Below.refl _ _, Kr.refl _⟩
  case round =>
    obtain ⟨k, hk, rfl, hc, hfr⟩ := hrel
    have HCK := Lib.hid hc
    have HFR := Lib.hid hfr
    have hwz : B ≤ wr.heap.size := Nat.le_trans hB1w hfr.1.size
    clear hfr
    obtain ⟨pv, c⟩ := hc
    by_cases hkn : k < n
    · obtain ⟨g, cap, hpv, _, hglt⟩ := c.own.form (by omega)
      subst hpv
      have q0 := c.blk.cell 0
      simp at q0
      have hhlt := c.blk.lt
      obtain ⟨bp, op, hpe, hplt, p0, p1, p2, p3, p4⟩ := (Cells.of_own c.own).five hkn
      injection hpe with hpe
      injection hpe with e1 e2
      subst e1 e2
      have hpm : Cm.payS F E S at_ (idx N s k) k = S k := Cm.payS_out idx_out
      rw [hpm] at p4
      rw [Nat.zero_add] at p0 p1 p2 p3 p4
      have HC := Lib.hid c
      clear hpm c
      by_cases he : (N k).data.toList = s.data.toList
      · have d0 : (N k).toList = s.toList := by rw [data_eq he]
        have d1 : ((N k).toList == s.toList) = true := by rw [d0]; simp
        have HI := Lib.hid (idx_yes he)
        clear d0 he
        cases hcan : Cm.can F E S at_ k with
        | true =>
          have HSt := Lib.hid (Cm.payS_yes (l := idx N s k) hcan)
          have HCB := Lib.hid (show (decide (S k = 0) && decide (F k ≤ at_) && decide (at_ ≤ E k)) = true from hcan)
          clear hcan
          go_wp2_with fail
          refine can_any.mono ?_
          rintro e' w5 ⟨rfl, hb5⟩
          rw [HCB.out]
          have hC5 := HC.out.keep hb5
          have q0' := hC5.blk.cell 0
          simp at q0'
          have hgh : g ≠ h := fun e => hC5.pvh (by rw [← e]; rfl)
          have hgh2 : h ≠ g := fun e => hgh e.symm
          have hfz := hC5.own.frozenAt (k * 5 + 4)
          have hfz2 := hC5.own.frozenAt (0 + k * 5 + 4)
          rw [Nat.zero_add] at hfz2
          have hglt5 := Nat.lt_of_lt_of_le hplt hb5.size
          have p4' : w5.cell? ⟨g, k * 5 + 4, none⟩ = some (.int .i64 (S k)) := (hb5.cell (p := ⟨g, k * 5 + 4, none⟩) hplt).trans p4
          have HM := Lib.hid (hC5.mark (m := k) (y := 1) hkn (by omega) (by omega))
          have HFR5 := Lib.hid (show Below B w1 w5 ∧ Kr w1 w5 from ⟨HFR.out.1.trans (hb5.mono hwz), HFR.out.2.trans (Kr.old hb5)⟩)
          clear hb5 hC5 p0 p1 p2 p3 p4 q0
          go_wp2
          go_roundw
          case rel => exact ⟨k + 1, by omega, by go_num, by rw [HI.out, HSt.out]; exact ⟨_, HM.out.1⟩, HFR5.out.1.trans HM.out.2.1, HFR5.out.2.trans HM.out.2.2⟩
          case measure => simp [intOf] <;> omega
        | false =>
          have HSt := Lib.hid (Cm.payS_no (l := idx N s k) hcan)
          have HCB := Lib.hid (show (decide (S k = 0) && decide (F k ≤ at_) && decide (at_ ≤ E k)) = false from hcan)
          clear hcan
          go_wp2_with fail
          refine can_any.mono ?_
          rintro e' w5 ⟨rfl, hb5⟩
          rw [HCB.out]
          have H5 := Lib.hid hb5
          clear hb5
          go_wp2
          go_roundw
          case rel => exact ⟨k + 1, by omega, by go_num, by rw [HI.out, HSt.out]; exact HCK.out.keep H5.out, HFR.out.1.trans (H5.out.mono hwz), HFR.out.2.trans (Kr.old H5.out)⟩
          case measure => simp [intOf] <;> omega
      · have d0 : ¬ (N k).toList = s.toList := fun e => he (by rw [ByteArray.toList_eq, ByteArray.toList_eq] at e; exact e)
        have d1 : ((N k).toList == s.toList) = false := by simp [d0]
        have HI := Lib.hid (idx_no he)
        clear he d0
        go_wp2
        go_roundw
        case rel => exact ⟨k + 1, by omega, by go_num, by rw [HI.out]; exact HCK.out, HFR.out⟩
        case measure => simp [intOf] <;> omega
    · obtain rfl : k = n := by omega
      obtain ⟨pA, pc, hpv, _⟩ := own_slice c.own
      subst hpv
      have q0 := c.blk.cell 0
      simp at q0
      clear c
      go_wp2
      go_ret2
      exact ⟨rfl, HCK.out, HB1.out.1.trans HFR.out.1, HB1.out.2.trans HFR.out.2⟩
theorem rclaim_any {B : Nat} {w : World} {h n : Nat} {N : Nat → ByteArray} {A F E S : Nat → Int} (c : Refs B w h n N A F E S) (hBw : B ≤ w.heap.size) {s : ByteArray} {at_ most : Int} :
    Calls Try.prog 60 #[.pointer (some ⟨h, 0, none⟩), .string s, .int .i64 at_, .int .i64 most] w (FLeft B w h n N A F E (clS A F E S at_ most (idx N s n)) (.tuple #[.int .i64 (Cm.ckV A F E S at_ most (idx N s n)), .int .i64 (Cm.ckE A F E S at_ most (idx N s n))])) := by
  by_cases hy : Cm.ckE A F E S at_ most (idx N s n) = 0
  · have := rclaim_yes (s := s) (u := Cm.lsum (Cm.can F E S at_) A (idx N s n)) c hBw hy rfl
    unfold clS Cm.ckV
    rw [if_pos hy, if_pos hy, hy]
    exact this
  · have := rclaim_no (s := s) (y := Cm.ckE A F E S at_ most (idx N s n)) c hBw rfl hy
    unfold clS Cm.ckV
    rw [if_neg hy, if_neg hy]
    exact this
end Go.Proofs.Ytpalmlcepppifaa
