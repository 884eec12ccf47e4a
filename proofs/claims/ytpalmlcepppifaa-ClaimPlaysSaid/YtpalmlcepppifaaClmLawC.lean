/- The walk of the law ClaimChannel. -/
import Derived.Test.YtpalmlcepppifaaClmWorks
set_option linter.unusedVariables false
namespace Go.Proofs.Ytpalmlcepppifaa
open Go.RowKit Go.Maps Go.ChangeShapes Go.WideElems Go.WideMaps

def et : ByteArray := ⟨#[116]⟩
theorem wf_at_u32 {n : Int} (h : (Lit.int .u32 n).wf = true) : 0 ≤ n ∧ n ≤ 4294967295 := by
  simp [Lit.wf, IntKind.min, IntKind.max, IntKind.signed, IntKind.bits] at h; omega
theorem wf_at_u16 {n : Int} (h : (Lit.int .u16 n).wf = true) : 0 ≤ n ∧ n ≤ 65535 := by
  simp [Lit.wf, IntKind.min, IntKind.max, IntKind.signed, IntKind.bits] at h; omega

set_option maxHeartbeats 1000000 in
theorem claimChannel_walk (W : World) (a : Int) (wa : (Lit.int .u32 a).wf = true) (m : Int) (wm : (Lit.int .i64 m).wf = true) (t : Int) (wt : (Lit.int .u16 t).wf = true) :
    Calls Try.prog 3 #[.int .u32 a, .int .i64 m, .int .u16 t] W fun e w' => e = .returned (.bool true) ∧ Below W.heap.size W w' := by
  obtain ⟨a0, a1⟩ := wf_at_u32 wa
  obtain ⟨t0, t1⟩ := wf_at_u16 wt
  clear wa wm wt
  by_cases hm : 0 < m ∧ m < a + 1
  · obtain ⟨m0, m1⟩ := hm
    go_enter Try.func3, Try.ntmps3
    go_wp2_with fail
    refine (new_at W).mono ?_
    rintro e w1 ⟨h, rfl, ha⟩
    have HA := Lib.hid ha
    clear ha
    go_wp2_with fail
    refine (add_yes (s := et) HA.out.obj (by omega) HA.out.size (by decide) (by decide) (by omega) (by omega) (by omega) (by omega) (by omega)).mono ?_
    rintro e w2 hk
    obtain rfl := hk.1
    replace HA := Lib.hid (HA.out.left hk)
    clear hk
    go_wp2_with fail
    refine (claim_not (s := et) (y := 31) HA.out.obj HA.out.size (by decide) (idx_one _ _) (Cm.ck1_channel (by rfl) (show (0 : Int) ≤ t by omega) (show t ≤ (1073741824 : Int) by omega) (show a + 1 ≤ 1000000000000 by omega) (show 0 < m ∧ m < a + 1 from ⟨m0, m1⟩)) (by decide)).mono ?_
    rintro e w3 hk
    obtain rfl := hk.1
    replace HA := Lib.hid (HA.out.left hk)
    clear hk
    go_wp2_with fail
    refine (claim_got (s := et) (u := a + 1) HA.out.obj HA.out.size (by decide) (idx_one _ _) (Cm.ck1_ok (by rfl) (show (0 : Int) ≤ t by omega) (show t ≤ (1073741824 : Int) by omega) (show a + 1 ≤ 1000000000000 by omega) (by omega)) (Cm.lsum_one _ _ (Cm.ck1_can (by rfl) (show (0 : Int) ≤ t by omega) (show t ≤ (1073741824 : Int) by omega)))).mono ?_
    rintro e w4 hk
    obtain rfl := hk.1
    replace HA := Lib.hid (HA.out.left hk)
    clear hk
    go_wp2_with fail
    refine (works44 _).mono ?_
    rintro e w9 ⟨rfl, hb9⟩
    have HB := Lib.hid (Below.on HA.out.below hb9)
    clear hb9
    go_wp2
    go_ret
    exact ⟨rfl, HB.out⟩
  · have HM := Lib.hid hm
    have hm2 : m ≤ 0 ∨ (0 < m ∧ a + 1 ≤ m) := by omega
    clear hm
    rcases hm2 with hm2 | ⟨hm2, hm3⟩
    all_goals
      go_enter Try.func3, Try.ntmps3
      go_wp2_with fail
      refine (new_at W).mono ?_
      rintro e w1 ⟨h, rfl, ha⟩
      have HA := Lib.hid ha
      clear ha
      go_wp2_with fail
      refine (add_yes (s := et) HA.out.obj (by omega) HA.out.size (by decide) (by decide) (by omega) (by omega) (by omega) (by omega) (by omega)).mono ?_
      rintro e w2 hk
      obtain rfl := hk.1
      replace HA := Lib.hid (HA.out.left hk)
      clear hk
      go_wp2_with fail
      refine (claim_got (s := et) (u := a + 1) HA.out.obj HA.out.size (by decide) (idx_one _ _) (Cm.ck1_ok (by rfl) (show (0 : Int) ≤ t by omega) (show t ≤ (1073741824 : Int) by omega) (show a + 1 ≤ 1000000000000 by omega) HM.out) (Cm.lsum_one _ _ (Cm.ck1_can (by rfl) (show (0 : Int) ≤ t by omega) (show t ≤ (1073741824 : Int) by omega)))).mono ?_
      rintro e w4 hk
      obtain rfl := hk.1
      replace HA := Lib.hid (HA.out.left hk)
      clear hk
      go_wp2_with fail
      refine (works44 _).mono ?_
      rintro e w9 ⟨rfl, hb9⟩
      have HB := Lib.hid (Below.on HA.out.below hb9)
      clear hb9
      go_wp2
      go_ret
      exact ⟨rfl, HB.out⟩
end Go.Proofs.Ytpalmlcepppifaa
