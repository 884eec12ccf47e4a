/- The walk of the law PayoutFree. -/
import Derived.Test.YtjjilnipmoanlaaPayFew
set_option linter.unusedVariables false
namespace Go.Proofs.Ytjjilnipmoanlaa
open Go.RowKit

set_option maxHeartbeats 1000000 in
set_option maxRecDepth 100000 in
theorem payoutFree_walk (W : World) (g : Int) (wg : (Lit.int .i64 g).wf = true) :
    Calls Try.prog 17 #[.int .i64 g] W fun e w' => e = .returned (.bool true) ∧ Below W.heap.size W w' := by
  clear wg
  by_cases hg : 0 ≤ g ∧ g ≤ 1000000000000
  · obtain ⟨g0, g1⟩ := hg
    have HN := Lib.hid (Tx.none_of (F := fun _ => 0) (R := fun _ => 0) g0 g1)
    have hl : Db.left (fun _ => 0) (g - 0) 0 = g := by simp [Db.left]
    have HL := Lib.hid hl
    clear hl
    go_enter Try.func17, Try.ntmps17
    go_wp2_with fail
    refine (pay_good (n := 0) (m := 0) (F := fun _ => 0) (R := fun _ => 0) (C := fun _ => ByteArray.empty) (K := fun _ => 0) (A := fun _ => 0) (t := 0) (by omega) (by omega) Cells.nil Cells.nil (fun i hi => absurd hi (by omega)) g0 g1 HN.out.2 HN.out.1 (by rfl) (by omega) (by omega)).mono ?_
    rintro e w1 ⟨D1, c1, rfl, _, hb, _⟩
    rw [HL.out]
    unfold order
    replace hb := hb.alloc hb.size (.cells #[.int .i64 g, .int .i64 0, .slice D1 0 c1, .int .i64 g] 51)
    go_wp2_with fail
    refine (works47 _).mono ?_
    rintro e w2 ⟨rfl, hb2⟩
    replace hb := Below.on hb hb2
    clear hb2
    go_wp2
    go_ret
    exact ⟨rfl, hb⟩
  · have hp : perr 0 (fun _ => 0) (fun _ => 0) 0 (fun _ => ByteArray.empty) (fun _ => 0) (fun _ => 0) g = 2 := by unfold perr; rw [if_neg hg]
    have HP := Lib.hid hp
    clear hp
    by_cases g0 : g < 0
    · clear hg
      go_enter Try.func17, Try.ntmps17
      go_wp2_with fail
      refine (pay_bad (y := 2) (n := 0) (m := 0) (by omega) (by omega) Cells.nil Cells.nil (fun i hi => absurd hi (by omega)) HP.out (by omega)).mono ?_
      rintro e w1 ⟨rfl, hb⟩
      unfold order
      replace hb := hb.alloc hb.size (.cells #[.int .i64 0, .int .i64 0, .slice none 0 0, .int .i64 0] 51)
      go_wp2_with fail
      refine (works47 _).mono ?_
      rintro e w2 ⟨rfl, hb2⟩
      replace hb := Below.on hb hb2
      clear hb2
      go_wp2
      go_ret
      exact ⟨rfl, hb⟩
    · have g1 : 1000000000000 < g := by omega
      clear hg
      go_enter Try.func17, Try.ntmps17
      go_wp2_with fail
      refine (pay_bad (y := 2) (n := 0) (m := 0) (by omega) (by omega) Cells.nil Cells.nil (fun i hi => absurd hi (by omega)) HP.out (by omega)).mono ?_
      rintro e w1 ⟨rfl, hb⟩
      unfold order
      replace hb := hb.alloc hb.size (.cells #[.int .i64 0, .int .i64 0, .slice none 0 0, .int .i64 0] 51)
      go_wp2_with fail
      refine (works47 _).mono ?_
      rintro e w2 ⟨rfl, hb2⟩
      replace hb := Below.on hb hb2
      clear hb2
      go_wp2
      go_ret
      exact ⟨rfl, hb⟩
end Go.Proofs.Ytjjilnipmoanlaa
