/- The walk of the reference's Sum. -/
import Derived.Test.YtpalmlcepppifaaClmRef5
import Derived.BigQuiet
import Derived.StillTailTactics
set_option linter.unusedVariables false
namespace Go.Proofs.Ytpalmlcepppifaa
open Go.RowKit Go.ChangeShapes

def Tri (w : World) (g : Nat) (x y z : Int) : Prop := Blk w g 99 #[.int .i64 x, .int .i64 y, .int .i64 z]
theorem Tri.at_ {w : World} {g : Nat} {x y z : Int} (h : Tri w g x y z) : g < w.heap.size ∧ w.cell? ⟨g, 0, none⟩ = some (.int .i64 x) ∧ w.cell? ⟨g, 1, none⟩ = some (.int .i64 y) ∧ w.cell? ⟨g, 2, none⟩ = some (.int .i64 z) := by
  have q0 := Blk.cell h 0
  have q1 := Blk.cell h 1
  have q2 := Blk.cell h 2
  simp at q0 q1 q2
  exact ⟨Blk.lt h, q0, q1, q2⟩
set_option maxHeartbeats 4000000 in
set_option maxRecDepth 100000 in
theorem rsum44_any {B : Nat} {w : World} {h n : Nat} {N : Nat → ByteArray} {A F E S : Nat → Int} (c : Refs B w h n N A F E S) :
    Calls Try.prog 42 #[.pointer (some ⟨h, 0, none⟩)] w fun e w' => e = .returned (.tuple #[.int .i64 (Cm.psum A S 0 n), .int .i64 (Cm.psum A S 1 n), .int .i64 (Cm.psum A S 2 n)]) ∧ Below w.heap.size w w' := by
  obtain ⟨v, c⟩ := c
  have hn8 := c.n8
  have HST := Lib.hid c.st
  have HSS := Lib.hid c.ss
  obtain ⟨pA, pc, hpv, _⟩ := own_slice c.own
  subst hpv
  have HBLK := Lib.hid c.blk
  have HP := Lib.hid (Cells.of_own c.own)
  have q0 := c.blk.cell 0
  simp at q0
  clear c
  have HT0 := Lib.hid (show Tri (w.alloc (.cells #[.int .i64 0, .int .i64 0, .int .i64 0] 99)) w.heap.size 0 0 0 from Blk.new _ _ _)
  have HB0 := Lib.hid ((Below.refl w.heap.size w).alloc (Nat.le_refl _) (.cells #[.int .i64 0, .int .i64 0, .int .i64 0] 99))
  go_enter Try.func42, Try.ntmps42
  go_wp2
  go_loopw [6] (fun i wr => ∃ k : Nat, k ≤ n ∧ i = .int .i64 k ∧ Tri wr w.heap.size (Cm.psum A S 0 k) (Cm.psum A S 1 k) (Cm.psum A S 2 k) ∧ Below w.heap.size w wr) (fun i _ => n - (intOf i).toNat)
  case atStart => exact ⟨0, Nat.zero_le _, rfl, HT0.out, HB0.out⟩
  case round =>
    clear q0
    obtain ⟨k, hk, rfl, ht, hbw⟩ := hrel
    have hblk := HBLK.out.keep hbw
    have q0 := hblk.cell 0
    simp at q0
    have hhlt := hblk.lt
    clear hblk
    by_cases hkn : k < n
    · obtain ⟨bp, op, hpe, hplt, p0, p1, p2, p3, p4⟩ := (HP.out.below hbw).five hkn
      subst hpe
      obtain ⟨a0, a1⟩ := HST.out k hkn
      obtain ⟨s0, s1⟩ := HSS.out k hkn
      obtain ⟨t00, t01⟩ := Cm.psum_bd (S := S) (y := 0) (k := k) (fun i hi => HST.out i (by omega))
      obtain ⟨t10, t11⟩ := Cm.psum_bd (S := S) (y := 1) (k := k) (fun i hi => HST.out i (by omega))
      obtain ⟨t20, t21⟩ := Cm.psum_bd (S := S) (y := 2) (k := k) (fun i hi => HST.out i (by omega))
      have t02 : Cm.psum A S 0 k ≤ 8192000000000000 := by omega
      have t12 : Cm.psum A S 1 k ≤ 8192000000000000 := by omega
      have t22 : Cm.psum A S 2 k ≤ 8192000000000000 := by omega
      clear t01 t11 t21
      have hp : ∀ y, Cm.psum A S y (k + 1) = Cm.psum A S y k + if S k = y then A k else 0 := fun _ => rfl
      obtain ⟨hglt, g0, g1, g2⟩ := ht.at_
      have HT := Lib.hid ht
      have HBW := Lib.hid hbw
      clear ht hbw
      have hk3 : S k = 0 ∨ S k = 1 ∨ S k = 2 := by omega
      rcases hk3 with h0 | h0 | h0
      all_goals
        have P0 := Lib.hid (hp 0)
        have P1 := Lib.hid (hp 1)
        have P2 := Lib.hid (hp 2)
        have HS := Lib.hid h0
        rw [h0] at p4
        clear hp h0 s0 s1
        go_wp2_with fail
        go_still_tail 28, (by kernel_rfl)
        change wpList _ _ _ _ _ wr.drew
        have HTD := Lib.hid (show Tri wr.drew w.heap.size (Cm.psum A S 0 k) (Cm.psum A S 1 k) (Cm.psum A S 2 k) from Blk.keep HT.out (below_drewN (Below.refl _ _) 1))
        have HBD := Lib.hid (show Below w.heap.size w wr.drew from Below.on HBW.out (below_drewN (Below.refl _ _) 1))
        clear p0 p1 p2 p3 p4 q0 hhlt hplt hglt g0 g1 g2
        generalize wr.drew = W at HTD HBD ⊢
        obtain ⟨hglt, g0, g1, g2⟩ := HTD.out.at_
        have hfz := Blk.frozen HTD.out 0
        have hfz1 := Blk.frozen HTD.out 1
        have hfz2 := Blk.frozen HTD.out 2
        go_wp2
        go_roundw
        case rel =>
          refine ⟨k + 1, by omega, by go_num, ?_, HBD.out.setCell (p := ⟨w.heap.size, _, none⟩) (Nat.le_refl _) _⟩
          rw [P0.out, P1.out, P2.out, HS.out]
          first
            | (have := Blk.set_ HTD.out 0 (.int .i64 (Cm.psum A S 0 k + A k)); simpa [Tri] using this)
            | (have := Blk.set_ HTD.out 1 (.int .i64 (Cm.psum A S 1 k + A k)); simpa [Tri] using this)
            | (have := Blk.set_ HTD.out 2 (.int .i64 (Cm.psum A S 2 k + A k)); simpa [Tri] using this)
        case measure => simp [intOf] <;> omega
    · obtain rfl : k = n := by omega
      obtain ⟨hglt, g0, g1, g2⟩ := ht.at_
      have HBW := Lib.hid hbw
      clear ht hbw
      go_wp2_with fail
      go_quiet (fail)
      go_wp2
      go_ret3
      exact ⟨rfl, Below.on HBW.out (below_drewN (Below.refl _ _) nq)⟩
end Go.Proofs.Ytpalmlcepppifaa
