/- The walks of Claim, Expire and Sum of the claims. -/
import Derived.Test.YtpalmlcepppifaaClmMark
set_option linter.unusedVariables false
namespace Go.Proofs.Ytpalmlcepppifaa
open Go.RowKit Go.Maps Go.ChangeShapes Go.WideElems Go.WideMaps

/-- What a call that writes leaves. -/
def CLeft (B : Nat) (w : World) (h n : Nat) (N : Nat → ByteArray) (A F E S : Nat → Int) (v : Value) (e : Ending) (w' : World) : Prop :=
  e = .returned v ∧ Claims B w' h n N A F E S ∧ Below B w w' ∧ Kp w w'

set_option maxHeartbeats 4000000 in
set_option maxRecDepth 100000 in
theorem expire_any {B : Nat} {w : World} {h n : Nat} {N : Nat → ByteArray} {A F E S : Nat → Int} (c : Claims B w h n N A F E S) (hBw : B ≤ w.heap.size) {at_ : Int} :
    Calls Try.prog 37 #[.pointer (some ⟨h, 0, none⟩), .int .i64 at_] w (CLeft B w h n N A F E (Cm.oldS E S at_ n) (.int .i64 (Cm.osum A E S at_ n))) := by
  have HC0 := Lib.hid c
  obtain ⟨pv0, b10, b20, D0, O0, c⟩ := c
  have hn8 := c.n8
  have HST := Lib.hid c.st
  obtain ⟨pA, pc, hpv, _⟩ := own_slice c.own
  subst hpv
  have q0 := c.blk.cell 0
  simp at q0
  have hhlt := c.blk.lt
  clear c
  go_enter Try.func37, Try.ntmps37
  go_wp2
  go_loopw [5, 15] (fun v i wr => ∃ k : Nat, k ≤ n ∧ i = .int .i64 k ∧ v = .int .i64 (Cm.osum A E S at_ k) ∧ Claims B wr h n N A F E (Cm.oldS E S at_ k) ∧ Below B w wr ∧ Kp w wr) (fun _ i _ => n - (intOf i).toNat)
  case atStart => exact ⟨0, Nat.zero_le _, rfl, rfl, by rw [Cm.oldS_zero]; exact HC0.out, Below.refl _ _, Kp.refl _⟩
  case round =>
    clear q0 hhlt
    obtain ⟨k, hk, rfl, rfl, hc, hbw, hkp⟩ := hrel
    have HCK := Lib.hid hc
    have HBW := Lib.hid hbw
    have HKP := Lib.hid hkp
    have hwz : B ≤ wr.heap.size := Nat.le_trans hBw hbw.size
    clear hbw hkp
    by_cases hkn : k < n
    · obtain ⟨pv, b1, b2, D, O, c⟩ := hc
      obtain ⟨g, cap, hpv, _, hglt⟩ := c.own.form (by omega)
      subst hpv
      have q0 := c.blk.cell 0
      have q2 := c.blk.cell 2
      simp at q0 q2
      have hhlt := c.blk.lt
      have hP := Cells.of_own c.own
      obtain ⟨bp, op, hpe, hplt, p0, p1, p2, p3⟩ := hP.four hkn
      injection hpe with hpe
      injection hpe with e1 e2
      subst e1 e2
      have hfz := c.own.frozenAt (k * 4 + 3)
      have hfz2 := c.own.frozenAt (0 + k * 4 + 3)
      rw [Cm.oldS_at] at p3
      rw [Nat.zero_add] at p0 p1 p2 p3 hfz2
      obtain ⟨hopn1, hgh⟩ := c.stored (m := k) 2
      have hgh2 : h ≠ g := fun e => hgh e.symm
      have HOPN1 := Lib.hid hopn1
      have HC := Lib.hid c
      obtain ⟨a0, a1⟩ := HST.out k hkn
      obtain ⟨s0, s1⟩ := Cm.osum_bd (E := E) (S := S) (at_ := at_) (k := k) (fun i hi => HST.out i (by omega))
      have s2 : Cm.osum A E S at_ k ≤ 8192000000000000 := by omega
      clear s1 c hopn1 hP
      by_cases hS0 : S k = 0
      · have d0 : (S k == 0) = true := by simp [hS0]
        by_cases hE : E k < at_
        · have ho : Cm.old E S at_ k = true := by unfold Cm.old; simp [hS0, hE]
          have HSu := Lib.hid (show Cm.osum A E S at_ (k + 1) = Cm.osum A E S at_ k + A k by simp only [Cm.osum]; rw [if_pos ho])
          have HSt := Lib.hid (Cm.oldS_yes ho)
          have HS0 := Lib.hid (show Cm.oldS E S at_ k k = 0 by rw [Cm.oldS_at]; exact hS0)
          have HMARK := Lib.hid (show ∀ w2 : World, w2.ownsMap Try.prog 3 (plainElem Try.prog 4) b2 n (O.del (.int .i64 k)) → (wr.setCell ⟨g, k * 4 + 3, none⟩ (.int .i64 2)).mapTurned w2 b2 →
              (Claims B w2 h n N A F E (upd (Cm.oldS E S at_ k) k 2) ∧ Below B wr w2 ∧ Kp wr w2) ∧ w2.cell? ⟨g, k * 4, none⟩ = some (.int .i64 (A k)) from fun w2 hd ht => by
            obtain ⟨m1, m2, m3⟩ := HC.out.mark hkn HS0.out (by decide) hwz hd ht
            refine ⟨⟨⟨_, _, _, _, _, m1⟩, m2, m3⟩, ?_⟩
            have hP2 := Cells.of_own m1.own
            obtain ⟨bp, op, hpe, _, p0, _⟩ := hP2.four hkn
            injection hpe with hpe
            injection hpe with e1 e2
            subst e1 e2
            rw [Nat.zero_add] at p0
            exact p0)
          clear ho hS0
          go_wp2_with (at_delete; refine wpList_delete_own _ rfl _ _ 75 3 rfl 4 kI Try.underlying75 (plainElem Try.prog 4) b2 n O rfl HOPN1.out (.int .i64 (k : Int)) (.int .i64 (k : Int)) rfl (keyOf_int_mk Try.underlying3 (WalkArith.wf_i64 (by omega))) ?_; intro w2 hd2 ht2; obtain ⟨hm2, pz⟩ := HMARK.out _ hd2 ht2; have HM2 := Lib.hid hm2; clear hm2 hd2 ht2)
          go_roundw
          case rel => exact ⟨k + 1, by omega, by go_num, by rw [HSu.out], by rw [HSt.out]; exact HM2.out.1, HBW.out.trans HM2.out.2.1, HKP.out.trans HM2.out.2.2⟩
          case measure => simp [intOf] <;> omega
        · have ho : Cm.old E S at_ k = false := by unfold Cm.old; simp; omega
          have HSu := Lib.hid (show Cm.osum A E S at_ (k + 1) = Cm.osum A E S at_ k by simp only [Cm.osum]; rw [if_neg (by rw [ho]; decide), Int.add_zero])
          have HSt := Lib.hid (Cm.oldS_no ho)
          clear ho hS0
          go_wp2
          go_roundw
          case rel => exact ⟨k + 1, by omega, by go_num, by rw [HSu.out], by rw [HSt.out]; exact HCK.out, HBW.out, HKP.out⟩
          case measure => simp [intOf] <;> omega
      · have d0 : (S k == 0) = false := by simp [hS0]
        have ho : Cm.old E S at_ k = false := by unfold Cm.old; simp [hS0]
        have HSu := Lib.hid (show Cm.osum A E S at_ (k + 1) = Cm.osum A E S at_ k by simp only [Cm.osum]; rw [if_neg (by rw [ho]; decide), Int.add_zero])
        have HSt := Lib.hid (Cm.oldS_no ho)
        clear ho hS0
        go_wp2
        go_roundw
        case rel => exact ⟨k + 1, by omega, by go_num, by rw [HSu.out], by rw [HSt.out]; exact HCK.out, HBW.out, HKP.out⟩
        case measure => simp [intOf] <;> omega
    · obtain rfl : k = n := by omega
      clear hc
      go_wp2
      go_ret
      exact ⟨rfl, HCK.out, HBW.out, HKP.out⟩

set_option maxHeartbeats 4000000 in
set_option maxRecDepth 100000 in
theorem sum_any {B : Nat} {w : World} {h n : Nat} {N : Nat → ByteArray} {A F E S : Nat → Int} (c : Claims B w h n N A F E S) :
    Calls Try.prog 36 #[.pointer (some ⟨h, 0, none⟩)] w fun e w' => e = .returned (.tuple #[.int .i64 (Cm.psum A S 0 n), .int .i64 (Cm.psum A S 1 n), .int .i64 (Cm.psum A S 2 n)]) ∧ Below w.heap.size w w' := by
  obtain ⟨pv, b1, b2, D, O, c⟩ := c
  have hn8 := c.n8
  have HST := Lib.hid c.st
  obtain ⟨pA, pc, hpv, _⟩ := own_slice c.own
  subst hpv
  have q0 := c.blk.cell 0
  simp at q0
  have HP := Lib.hid (Cells.of_own c.own)
  clear c
  go_enter Try.func36, Try.ntmps36
  go_wp2
  go_loopw [5, 6, 7, 17] (fun x y z i wr => ∃ k : Nat, k ≤ n ∧ i = .int .i64 k ∧ x = .int .i64 (Cm.psum A S 0 k) ∧ y = .int .i64 (Cm.psum A S 1 k) ∧ z = .int .i64 (Cm.psum A S 2 k) ∧ Below w.heap.size w wr) (fun _ _ _ i _ => n - (intOf i).toNat)
  case atStart => exact ⟨0, Nat.zero_le _, rfl, rfl, rfl, rfl, Below.refl _ _⟩
  case round =>
    obtain ⟨k, hk, rfl, rfl, rfl, rfl, hbw⟩ := hrel
    by_cases hkn : k < n
    · obtain ⟨bp, op, hpe, hplt, p0, p1, p2, p3⟩ := (HP.out.below hbw).four hkn
      subst hpe
      obtain ⟨a0, a1⟩ := HST.out k hkn
      have t0 := Cm.psum_bd (S := S) (y := 0) (k := k) (fun i hi => HST.out i (by omega))
      have t1 := Cm.psum_bd (S := S) (y := 1) (k := k) (fun i hi => HST.out i (by omega))
      have t2 := Cm.psum_bd (S := S) (y := 2) (k := k) (fun i hi => HST.out i (by omega))
      obtain ⟨t00, t01⟩ := t0
      obtain ⟨t10, t11⟩ := t1
      obtain ⟨t20, t21⟩ := t2
      have t02 : Cm.psum A S 0 k ≤ 8192000000000000 := by omega
      have t12 : Cm.psum A S 1 k ≤ 8192000000000000 := by omega
      have t22 : Cm.psum A S 2 k ≤ 8192000000000000 := by omega
      have HBX := Lib.hid (hbw.alloc hbw.size (.cells #[.int .i64 (A k), .int .i64 (F k), .int .i64 (E k), .int .i64 (S k)] 80))
      clear t01 t11 t21 hbw
      have hp : ∀ y, Cm.psum A S y (k + 1) = Cm.psum A S y k + if S k = y then A k else 0 := fun _ => rfl
      by_cases h0 : S k = 0
      · have P0 := Lib.hid (show Cm.psum A S 0 (k + 1) = Cm.psum A S 0 k + A k by rw [hp, if_pos h0])
        have P1 := Lib.hid (show Cm.psum A S 1 (k + 1) = Cm.psum A S 1 k by rw [hp, if_neg (by omega), Int.add_zero])
        have P2 := Lib.hid (show Cm.psum A S 2 (k + 1) = Cm.psum A S 2 k by rw [hp, if_neg (by omega), Int.add_zero])
        have d0 : (S k == 0) = true := by simp [h0]
        clear hp h0
        go_wp2
        go_roundw
        case rel => exact ⟨k + 1, by omega, by go_num, by rw [P0.out], by rw [P1.out], by rw [P2.out], HBX.out⟩
        case measure => simp [intOf] <;> omega
      · have d0 : (S k == 0) = false := by simp [h0]
        have P0 := Lib.hid (show Cm.psum A S 0 (k + 1) = Cm.psum A S 0 k by rw [hp, if_neg h0, Int.add_zero])
        by_cases h1 : S k = 1
        · have P1 := Lib.hid (show Cm.psum A S 1 (k + 1) = Cm.psum A S 1 k + A k by rw [hp, if_pos h1])
          have P2 := Lib.hid (show Cm.psum A S 2 (k + 1) = Cm.psum A S 2 k by rw [hp, if_neg (by omega), Int.add_zero])
          have d1 : (S k == 1) = true := by simp [h1]
          clear hp h0 h1
          go_wp2
          go_roundw
          case rel => exact ⟨k + 1, by omega, by go_num, by rw [P0.out], by rw [P1.out], by rw [P2.out], HBX.out⟩
          case measure => simp [intOf] <;> omega
        · have d1 : (S k == 1) = false := by simp [h1]
          have P1 := Lib.hid (show Cm.psum A S 1 (k + 1) = Cm.psum A S 1 k by rw [hp, if_neg h1, Int.add_zero])
          by_cases h2 : S k = 2
          · have P2 := Lib.hid (show Cm.psum A S 2 (k + 1) = Cm.psum A S 2 k + A k by rw [hp, if_pos h2])
            have d2 : (S k == 2) = true := by simp [h2]
            clear hp h0 h1 h2
            go_wp2
            go_roundw
            case rel => exact ⟨k + 1, by omega, by go_num, by rw [P0.out], by rw [P1.out], by rw [P2.out], HBX.out⟩
            case measure => simp [intOf] <;> omega
          · have P2 := Lib.hid (show Cm.psum A S 2 (k + 1) = Cm.psum A S 2 k by rw [hp, if_neg h2, Int.add_zero])
            have d2 : (S k == 2) = false := by simp [h2]
            clear hp h0 h1 h2
            go_wp2
            go_roundw
            case rel => exact ⟨k + 1, by omega, by go_num, by rw [P0.out], by rw [P1.out], by rw [P2.out], HBX.out⟩
            case measure => simp [intOf] <;> omega
    · obtain rfl : k = n := by omega
      go_wp2
      go_ret3
      exact ⟨rfl, hbw⟩
end Go.Proofs.Ytpalmlcepppifaa
