/- The walk of the reference's Expire. -/
import Derived.Test.YtpalmlcepppifaaClmRef1
set_option linter.unusedVariables false
namespace Go.Proofs.Ytpalmlcepppifaa
open Go.RowKit Go.ChangeShapes

/-- What a call of the reference that writes leaves. -/
def FLeft (B : Nat) (w : World) (h n : Nat) (N : Nat → ByteArray) (A F E S : Nat → Int) (v : Value) (e : Ending) (w' : World) : Prop :=
  e = .returned v ∧ Refs B w' h n N A F E S ∧ Below B w w' ∧ Kr w w'
theorem Rf.mark {B : Nat} {w : World} {h n m g cap : Nat} {N : Nat → ByteArray} {A F E S : Nat → Int} {y : Int} (c : Rf B w h n N A F E S (.slice (some ⟨g, 0, none⟩) n cap))
    (hm : m < n) (hy0 : 0 ≤ y) (hy2 : y ≤ 2) :
    Rf B (w.setCell ⟨g, m * 5 + 4, none⟩ (.int .i64 y)) h n N A F E (upd S m y) (.slice (some ⟨g, 0, none⟩) n cap) ∧ Below B w (w.setCell ⟨g, m * 5 + 4, none⟩ (.int .i64 y)) ∧ Kr w (w.setCell ⟨g, m * 5 + 4, none⟩ (.int .i64 y)) := by
  have hg := (c.own.stored (m * 5 + 4) (.int .i64 y)).2
  have hown1 := (c.own.stored (m * 5 + 4) (.int .i64 y)).1
  rw [row_set5 hm] at hown1
  obtain ⟨cur, hc⟩ := own_obj c.own (g := g) rfl
  have hblk1 := c.blk.grown hg (fun e => c.pvh e.symm)
  have hgB : B ≤ g := (c.own.lt g rfl).1
  refine ⟨⟨hblk1, hown1, c.hB, c.n8, c.st, fun i hi => ?_⟩, (Below.refl B w).setCell (p := ⟨g, m * 5 + 4, none⟩) hgB _, Kr.only hg fun j hj => ?_⟩
  · by_cases e : i = m
    · subst e; rw [upd_same]; exact ⟨hy0, hy2⟩
    · rw [upd_ne _ _ e]; exact c.ss i hi
  · injection hj with hj; subst hj; exact ⟨cur, .inr hc⟩

set_option maxHeartbeats 4000000 in
set_option maxRecDepth 100000 in
theorem rexpire_any {B : Nat} {w : World} {h n : Nat} {N : Nat → ByteArray} {A F E S : Nat → Int} (c : Refs B w h n N A F E S) (hBw : B ≤ w.heap.size) {at_ : Int} :
    Calls Try.prog 61 #[.pointer (some ⟨h, 0, none⟩), .int .i64 at_] w (FLeft B w h n N A F E (Cm.oldS E S at_ n) (.int .i64 (Cm.osum A E S at_ n))) := by
  have HC0 := Lib.hid c
  obtain ⟨pv0, c⟩ := c
  have hn8 := c.n8
  have HST := Lib.hid c.st
  obtain ⟨pA, pc, hpv, _⟩ := own_slice c.own
  subst hpv
  have q0 := c.blk.cell 0
  simp at q0
  have hhlt := c.blk.lt
  clear c
  go_enter Try.func61, Try.ntmps61
  go_wp2
  go_loopw [5, 6] (fun v i wr => ∃ k : Nat, k ≤ n ∧ i = .int .i64 k ∧ v = .int .i64 (Cm.osum A E S at_ k) ∧ Refs B wr h n N A F E (Cm.oldS E S at_ k) ∧ Below B w wr ∧ Kr w wr) (fun _ i _ => n - (intOf i).toNat)
  case atStart => exact ⟨0, Nat.zero_le _, rfl, rfl, by rw [Cm.oldS_zero]; exact HC0.out, Below.refl _ _, Kr.refl _⟩
  case round =>
    clear q0 hhlt
    obtain ⟨k, hk, rfl, rfl, hc, hbw, hkp⟩ := hrel
    have HCK := Lib.hid hc
    have HBW := Lib.hid hbw
    have HKP := Lib.hid hkp
    have hwz : B ≤ wr.heap.size := Nat.le_trans hBw hbw.size
    clear hbw hkp
    by_cases hkn : k < n
    · obtain ⟨pv, c⟩ := hc
      obtain ⟨g, cap, hpv, _, hglt⟩ := c.own.form (by omega)
      subst hpv
      have q0 := c.blk.cell 0
      simp at q0
      have hhlt := c.blk.lt
      have hP := Cells.of_own c.own
      obtain ⟨bp, op, hpe, hplt, p0, p1, p2, p3, p4⟩ := hP.five hkn
      injection hpe with hpe
      injection hpe with e1 e2
      subst e1 e2
      have hfz := c.own.frozenAt (k * 5 + 4)
      have hfz2 := c.own.frozenAt (0 + k * 5 + 4)
      rw [Cm.oldS_at] at p4
      rw [Nat.zero_add] at p0 p1 p2 p3 p4 hfz2
      have hgh : g ≠ h := fun e => c.pvh (by rw [← e]; rfl)
      have hgh2 : h ≠ g := fun e => hgh e.symm
      have HM := Lib.hid (c.mark (m := k) (y := 2) hkn (by omega) (by omega))
      have hA1 : (wr.setCell ⟨g, k * 5 + 4, none⟩ (.int .i64 2)).cell? ⟨g, k * 5 + 1, none⟩ = some (.int .i64 (A k)) := by
        obtain ⟨m1, _, _⟩ := HM.out
        obtain ⟨bp, op, hpe, _, _, p1, _⟩ := (Cells.of_own m1.own).five hkn
        injection hpe with hpe
        injection hpe with e1 e2
        subst e1 e2
        rw [Nat.zero_add] at p1
        exact p1
      have hH1 : (wr.setCell ⟨g, k * 5 + 4, none⟩ (.int .i64 2)).cell? ⟨h, 0, none⟩ = some (.slice (some ⟨g, 0, none⟩) n cap) := by
        obtain ⟨m1, _, _⟩ := HM.out
        have := m1.blk.cell 0
        simpa using this
      obtain ⟨a0, a1⟩ := HST.out k hkn
      obtain ⟨s0, s1⟩ := Cm.osum_bd (E := E) (S := S) (at_ := at_) (k := k) (fun i hi => HST.out i (by omega))
      have s2 : Cm.osum A E S at_ k ≤ 8192000000000000 := by omega
      clear s1 c hP
      by_cases hS0 : S k = 0
      · have d0 : (S k == 0) = true := by simp [hS0]
        by_cases hE : E k < at_
        · have ho : Cm.old E S at_ k = true := by unfold Cm.old; simp [hS0, hE]
          have HSu := Lib.hid (show Cm.osum A E S at_ (k + 1) = Cm.osum A E S at_ k + A k by simp only [Cm.osum]; rw [if_pos ho])
          have HSt := Lib.hid (Cm.oldS_yes ho)
          clear ho hS0
          go_wp2
          go_roundw
          case rel => exact ⟨k + 1, by omega, by go_num, by rw [HSu.out], by rw [HSt.out]; exact ⟨_, HM.out.1⟩, HBW.out.trans HM.out.2.1, HKP.out.trans HM.out.2.2⟩
          case measure => simp [intOf] <;> omega
        · have ho : Cm.old E S at_ k = false := by unfold Cm.old; simp; omega
          have HSu := Lib.hid (show Cm.osum A E S at_ (k + 1) = Cm.osum A E S at_ k by simp only [Cm.osum]; rw [if_neg (by rw [ho]; decide), Int.add_zero])
          have HSt := Lib.hid (Cm.oldS_no ho)
          clear ho hS0
          go_wp2
          go_roundw
          case rel => exact ⟨k + 1, by omega, by go_num, by rw [HSu.out], by rw [HSt.out]; exact HCK.out, HBW.out, HKP.out⟩
          case measure => simp [intOf] <;> omega
      · have d0 : (S k == 0) = false := by simp [hS0]
        have ho : Cm.old E S at_ k = false := by unfold Cm.old; simp [hS0]
        have HSu := Lib.hid (show Cm.osum A E S at_ (k + 1) = Cm.osum A E S at_ k by simp only [Cm.osum]; rw [if_neg (by rw [ho]; decide), Int.add_zero])
        have HSt := Lib.hid (Cm.oldS_no ho)
        clear ho hS0
        go_wp2
        go_roundw
        case rel => exact ⟨k + 1, by omega, by go_num, by rw [HSu.out], by rw [HSt.out]; exact HCK.out, HBW.out, HKP.out⟩
        case measure => simp [intOf] <;> omega
    · obtain rfl : k = n := by omega
      obtain ⟨pv, c⟩ := hc
      obtain ⟨pA, pc, hpv, _⟩ := own_slice c.own
      subst hpv
      have q0 := c.blk.cell 0
      simp at q0
      clear c
      go_wp2
      go_ret
      exact ⟨rfl, HCK.out, HBW.out, HKP.out⟩
end Go.Proofs.Ytpalmlcepppifaa
