/- The walk of the law ClaimAlone. -/
import Derived.Test.YtpalmlcepppifaaClmPair
set_option linter.unusedVariables false
namespace Go.Proofs.Ytpalmlcepppifaa
open Go.RowKit Go.Maps Go.ChangeShapes Go.WideElems Go.WideMaps

theorem aerr_bad {a f t : Int} (h : a < 1 ∨ 1000000000000 < a) : aerr (et).size a f t = 2 := by
  unfold aerr
  rw [if_neg (by decide), if_pos (by omega)]
theorem cnt_one_open {S : Nat → Int} (h : S 0 = 0) : cnt S 1 = 1 := by simp [cnt, h]
theorem cnt_one_not {S : Nat → Int} (h : S 0 ≠ 0) : cnt S 1 = 0 := by simp [cnt, h]
theorem ck_none {A F E S : Nat → Int} {at_ most : Int} : Cm.ckE A F E S at_ most [] = 5 ∧ Cm.ckV A F E S at_ most [] = 0 := ⟨rfl, rfl⟩
set_option maxHeartbeats 4000000 in
theorem claimAlone_bad (W : World) (a : Int) (at_ : Int) {x y : Int} (hx : 0 ≤ x ∧ x ≤ 4294967295) (hy : 0 ≤ y ∧ y ≤ 4294967295) (hbad : a < 1 ∨ 1000000000000 < a) :
    Calls Try.prog 4 #[.int .i64 a, .int .i64 at_, .agg #[.int .u32 x, .int .u32 y]] W fun e w' => e = .returned (.bool true) ∧ Below W.heap.size W w' := by
  obtain ⟨W2, hW2⟩ : ∃ W2, W2 = W.alloc (.cells #[.int .u32 x, .int .u32 y] 32) := ⟨_, rfl⟩
  have hbx : Blk W2 W.heap.size 32 #[.int .u32 x, .int .u32 y] := by rw [hW2]; exact Blk.new W _ _
  have hb2 : Below W.heap.size W W2 := by rw [hW2]; exact (Below.refl _ _).alloc (Nat.le_refl _) _
  have q0 := hbx.cell 0
  have q1 := hbx.cell 1
  simp at q0 q1
  have HW2 := Lib.hid hW2
  have HB2 := Lib.hid hb2
  clear hbx hb2 hW2
  have hm0 : 0 ≤ (if y < x then y else x) := by split <;> omega
  have hm1 : 0 ≤ (if x < y then y else x) := by split <;> omega
  obtain ⟨x0, x1⟩ := hx
  obtain ⟨y0, y1⟩ := hy
  have hl4 : (if y < x then y else x) ≤ 4294967295 := by split <;> omega
  have hl5 : (if x < y then y else x) ≤ 4294967295 := by split <;> omega
  have HP := Lib.hid (show 0 ≤ (if y < x then y else x) % 1073741824 ∧ (if y < x then y else x) % 1073741824 < 1073741824 from ⟨Int.emod_nonneg _ (by decide), Int.emod_lt_of_pos _ (by decide)⟩)
  have HQ := Lib.hid (show 0 ≤ (if x < y then y else x) % 1073741824 ∧ (if x < y then y else x) % 1073741824 < 1073741824 from ⟨Int.emod_nonneg _ (by decide), Int.emod_lt_of_pos _ (by decide)⟩)
  go_enter Try.func4, Try.ntmps4
  go_wp2_with fail
  rw [← HW2.out]
  go_quiet (fail)
  have HB3 := Lib.hid (below_drewN HB2.out nq)
  clear q0 q1
  generalize W2.drewN nq = W3 at HB3 ⊢
  have hp := HP.out
  have hq := HQ.out
  clear HP HQ
  generalize (if y < x then y else x) % 1073741824 = p at hp ⊢
  generalize (if x < y then y else x) % 1073741824 = q at hq ⊢
  obtain ⟨p0, p1⟩ := hp
  obtain ⟨r0, r1⟩ := hq
  clear hm0 hm1 hl4 hl5 HB2 HW2
  generalize (if y < x then y else x) = mn
  generalize (if x < y then y else x) = mx
  by_cases hs : q < p
  · go_wp2_with fail
    refine (new_at W3).mono ?_
    rintro e w1 ⟨h, rfl, ha⟩
    have HA := Lib.hid ha
    clear ha
    go_wp2_with fail
    refine (add_bad (s := et) (aerr_bad hbad) (by decide)).mono ?_
    rintro e w2 ⟨rfl, rfl⟩
    go_wp2_with fail
    refine (check_at (s := et) HA.out.obj (by decide) ck_none.2 ck_none.1).mono ?_
    rintro e w3 ⟨rfl, hb3⟩
    replace HA := Lib.hid (HA.out.keep hb3)
    clear hb3
    rcases hbad with hbad | hbad
    · go_wp2_with fail
      refine (works44 _).mono ?_
      rintro e w9 ⟨rfl, hb9⟩
      have HB := Lib.hid (HB3.out.trans ((Below.on HA.out.below hb9).mono HB3.out.size))
      clear hb9
      go_wp2
      go_ret
      exact ⟨rfl, HB.out⟩
    · have hb1 : 1 ≤ a := by omega
      go_wp2_with fail
      refine (works44 _).mono ?_
      rintro e w9 ⟨rfl, hb9⟩
      have HB := Lib.hid (HB3.out.trans ((Below.on HA.out.below hb9).mono HB3.out.size))
      clear hb9
      go_wp2
      go_ret
      exact ⟨rfl, HB.out⟩
  · have hs2 : p ≤ q := by omega
    clear hs
    go_wp2_with fail
    refine (new_at W3).mono ?_
    rintro e w1 ⟨h, rfl, ha⟩
    have HA := Lib.hid ha
    clear ha
    go_wp2_with fail
    refine (add_bad (s := et) (aerr_bad hbad) (by decide)).mono ?_
    rintro e w2 ⟨rfl, rfl⟩
    go_wp2_with fail
    refine (check_at (s := et) HA.out.obj (by decide) ck_none.2 ck_none.1).mono ?_
    rintro e w3 ⟨rfl, hb3⟩
    replace HA := Lib.hid (HA.out.keep hb3)
    clear hb3
    rcases hbad with hbad | hbad
    · go_wp2_with fail
      refine (works44 _).mono ?_
      rintro e w9 ⟨rfl, hb9⟩
      have HB := Lib.hid (HB3.out.trans ((Below.on HA.out.below hb9).mono HB3.out.size))
      clear hb9
      go_wp2
      go_ret
      exact ⟨rfl, HB.out⟩
    · have hb1 : 1 ≤ a := by omega
      go_wp2_with fail
      refine (works44 _).mono ?_
      rintro e w9 ⟨rfl, hb9⟩
      have HB := Lib.hid (HB3.out.trans ((Below.on HA.out.below hb9).mono HB3.out.size))
      clear hb9
      go_wp2
      go_ret
      exact ⟨rfl, HB.out⟩
set_option maxHeartbeats 4000000 in
theorem claimAlone_good (W : World) (a : Int) (at_ : Int) {x y : Int} (hx : 0 ≤ x ∧ x ≤ 4294967295) (hy : 0 ≤ y ∧ y ≤ 4294967295) (a0 : 1 ≤ a) (a1 : a ≤ 1000000000000) :
    Calls Try.prog 4 #[.int .i64 a, .int .i64 at_, .agg #[.int .u32 x, .int .u32 y]] W fun e w' => e = .returned (.bool true) ∧ Below W.heap.size W w' := by
  obtain ⟨W2, hW2⟩ : ∃ W2, W2 = W.alloc (.cells #[.int .u32 x, .int .u32 y] 32) := ⟨_, rfl⟩
  have hbx : Blk W2 W.heap.size 32 #[.int .u32 x, .int .u32 y] := by rw [hW2]; exact Blk.new W _ _
  have hb2 : Below W.heap.size W W2 := by rw [hW2]; exact (Below.refl _ _).alloc (Nat.le_refl _) _
  have q0 := hbx.cell 0
  have q1 := hbx.cell 1
  simp at q0 q1
  have HW2 := Lib.hid hW2
  have HB2 := Lib.hid hb2
  clear hbx hb2 hW2
  have hm0 : 0 ≤ (if y < x then y else x) := by split <;> omega
  have hm1 : 0 ≤ (if x < y then y else x) := by split <;> omega
  obtain ⟨x0, x1⟩ := hx
  obtain ⟨y0, y1⟩ := hy
  have hl4 : (if y < x then y else x) ≤ 4294967295 := by split <;> omega
  have hl5 : (if x < y then y else x) ≤ 4294967295 := by split <;> omega
  have HP := Lib.hid (show 0 ≤ (if y < x then y else x) % 1073741824 ∧ (if y < x then y else x) % 1073741824 < 1073741824 from ⟨Int.emod_nonneg _ (by decide), Int.emod_lt_of_pos _ (by decide)⟩)
  have HQ := Lib.hid (show 0 ≤ (if x < y then y else x) % 1073741824 ∧ (if x < y then y else x) % 1073741824 < 1073741824 from ⟨Int.emod_nonneg _ (by decide), Int.emod_lt_of_pos _ (by decide)⟩)
  go_enter Try.func4, Try.ntmps4
  go_wp2_with fail
  rw [← HW2.out]
  go_quiet (fail)
  have HB3 := Lib.hid (below_drewN HB2.out nq)
  clear q0 q1
  generalize W2.drewN nq = W3 at HB3 ⊢
  have hp := HP.out
  have hq := HQ.out
  clear HP HQ
  generalize (if y < x then y else x) % 1073741824 = p at hp ⊢
  generalize (if x < y then y else x) % 1073741824 = q at hq ⊢
  obtain ⟨p0, p1⟩ := hp
  obtain ⟨r0, r1⟩ := hq
  clear hm0 hm1 hl4 hl5 HB2 HW2
  generalize (if y < x then y else x) = mn
  generalize (if x < y then y else x) = mx
  by_cases hs : q < p
  · by_cases h1 : at_ < q
    · go_wp2_with fail
      refine (new_at W3).mono ?_
      rintro e w1 ⟨h, rfl, ha⟩
      have HA := Lib.hid ha
      clear ha
      go_wp2_with fail
      refine (add_yes (s := et) HA.out.obj (by omega) HA.out.size (by decide) (by decide) (by omega) (by omega) (by omega) (by omega) (by omega)).mono ?_
      rintro e w2 hk
      obtain rfl := hk.1
      replace HA := Lib.hid (HA.out.left hk)
      clear hk
      go_wp2_with fail
      refine (claim_not (s := et) (y := 8) HA.out.obj HA.out.size (by decide) (idx_one _ _) (Cm.ck1_early rfl (show at_ < q from h1)) (by decide)).mono ?_
      rintro e w3 hk
      obtain rfl := hk.1
      replace HA := Lib.hid (HA.out.left hk)
      clear hk
      go_wp2_with fail
      refine (copen_at HA.out.obj (cnt_one_open rfl)).mono ?_
      rintro e w4 ⟨rfl, rfl⟩
      go_wp2_with fail
      refine (works44 _).mono ?_
      rintro e w9 ⟨rfl, hb9⟩
      have HB := Lib.hid (HB3.out.trans ((Below.on HA.out.below hb9).mono HB3.out.size))
      clear hb9
      go_wp2
      go_ret
      exact ⟨rfl, HB.out⟩
    · have h2 : q ≤ at_ := by omega
      clear h1
      by_cases h3 : p < at_
      · go_wp2_with fail
        refine (new_at W3).mono ?_
        rintro e w1 ⟨h, rfl, ha⟩
        have HA := Lib.hid ha
        clear ha
        go_wp2_with fail
        refine (add_yes (s := et) HA.out.obj (by omega) HA.out.size (by decide) (by decide) (by omega) (by omega) (by omega) (by omega) (by omega)).mono ?_
        rintro e w2 hk
        obtain rfl := hk.1
        replace HA := Lib.hid (HA.out.left hk)
        clear hk
        go_wp2_with fail
        refine (claim_not (s := et) (y := 16) HA.out.obj HA.out.size (by decide) (idx_one _ _) (Cm.ck1_late rfl (show q ≤ at_ from h2) (show p < at_ from h3)) (by decide)).mono ?_
        rintro e w3 hk
        obtain rfl := hk.1
        replace HA := Lib.hid (HA.out.left hk)
        clear hk
        go_wp2_with fail
        refine (copen_at HA.out.obj (cnt_one_open rfl)).mono ?_
        rintro e w4 ⟨rfl, rfl⟩
        go_wp2_with fail
        refine (works44 _).mono ?_
        rintro e w9 ⟨rfl, hb9⟩
        have HB := Lib.hid (HB3.out.trans ((Below.on HA.out.below hb9).mono HB3.out.size))
        clear hb9
        go_wp2
        go_ret
        exact ⟨rfl, HB.out⟩
      · have h4 : at_ ≤ p := by omega
        clear h3
        go_wp2_with fail
        refine (new_at W3).mono ?_
        rintro e w1 ⟨h, rfl, ha⟩
        have HA := Lib.hid ha
        clear ha
        go_wp2_with fail
        refine (add_yes (s := et) HA.out.obj (by omega) HA.out.size (by decide) (by decide) (by omega) (by omega) (by omega) (by omega) (by omega)).mono ?_
        rintro e w2 hk
        obtain rfl := hk.1
        replace HA := Lib.hid (HA.out.left hk)
        clear hk
        go_wp2_with fail
        refine (claim_got (s := et) (u := a) HA.out.obj HA.out.size (by decide) (idx_one _ _) (Cm.ck1_ok (by rfl) (show q ≤ at_ by omega) (show at_ ≤ p by omega) (show a ≤ 1000000000000 by omega) (by omega)) (Cm.lsum_one _ _ (Cm.ck1_can (by rfl) (show q ≤ at_ by omega) (show at_ ≤ p by omega)))).mono ?_
        rintro e w3 hk
        obtain rfl := hk.1
        have HS := Lib.hid (Cm.pay_one (Cm.ck1_can (F := upd (fun _ => (0 : Int)) 0 q) (E := upd (fun _ => (0 : Int)) 0 p) (S := upd (fun _ => (0 : Int)) 0 0) (at_ := at_) rfl (show q ≤ at_ by omega) (show at_ ≤ p by omega)))
        replace HA := Lib.hid (HA.out.left hk)
        clear hk
        go_wp2_with fail
        refine (claim_not (s := et) (y := 17) HA.out.obj HA.out.size (by decide) (idx_one _ _) (Cm.ck1_paid HS.out) (by decide)).mono ?_
        rintro e w4 hk
        obtain rfl := hk.1
        replace HA := Lib.hid (HA.out.left hk)
        clear hk
        go_wp2_with fail
        refine (copen_at HA.out.obj (cnt_one_not (by rw [HS.out]; decide))).mono ?_
        rintro e w5 ⟨rfl, rfl⟩
        go_wp2_with fail
        refine (works44 _).mono ?_
        rintro e w9 ⟨rfl, hb9⟩
        have HB := Lib.hid (HB3.out.trans ((Below.on HA.out.below hb9).mono HB3.out.size))
        clear hb9
        go_wp2
        go_ret
        exact ⟨rfl, HB.out⟩
  · have hs2 : p ≤ q := by omega
    clear hs
    by_cases h1 : at_ < p
    · go_wp2_with fail
      refine (new_at W3).mono ?_
      rintro e w1 ⟨h, rfl, ha⟩
      have HA := Lib.hid ha
      clear ha
      go_wp2_with fail
      refine (add_yes (s := et) HA.out.obj (by omega) HA.out.size (by decide) (by decide) (by omega) (by omega) (by omega) (by omega) (by omega)).mono ?_
      rintro e w2 hk
      obtain rfl := hk.1
      replace HA := Lib.hid (HA.out.left hk)
      clear hk
      go_wp2_with fail
      refine (claim_not (s := et) (y := 8) HA.out.obj HA.out.size (by decide) (idx_one _ _) (Cm.ck1_early rfl (show at_ < p from h1)) (by decide)).mono ?_
      rintro e w3 hk
      obtain rfl := hk.1
      replace HA := Lib.hid (HA.out.left hk)
      clear hk
      go_wp2_with fail
      refine (copen_at HA.out.obj (cnt_one_open rfl)).mono ?_
      rintro e w4 ⟨rfl, rfl⟩
      go_wp2_with fail
      refine (works44 _).mono ?_
      rintro e w9 ⟨rfl, hb9⟩
      have HB := Lib.hid (HB3.out.trans ((Below.on HA.out.below hb9).mono HB3.out.size))
      clear hb9
      go_wp2
      go_ret
      exact ⟨rfl, HB.out⟩
    · have h2 : p ≤ at_ := by omega
      clear h1
      by_cases h3 : q < at_
      · go_wp2_with fail
        refine (new_at W3).mono ?_
        rintro e w1 ⟨h, rfl, ha⟩
        have HA := Lib.hid ha
        clear ha
        go_wp2_with fail
        refine (add_yes (s := et) HA.out.obj (by omega) HA.out.size (by decide) (by decide) (by omega) (by omega) (by omega) (by omega) (by omega)).mono ?_
        rintro e w2 hk
        obtain rfl := hk.1
        replace HA := Lib.hid (HA.out.left hk)
        clear hk
        go_wp2_with fail
        refine (claim_not (s := et) (y := 16) HA.out.obj HA.out.size (by decide) (idx_one _ _) (Cm.ck1_late rfl (show p ≤ at_ from h2) (show q < at_ from h3)) (by decide)).mono ?_
        rintro e w3 hk
        obtain rfl := hk.1
        replace HA := Lib.hid (HA.out.left hk)
        clear hk
        go_wp2_with fail
        refine (copen_at HA.out.obj (cnt_one_open rfl)).mono ?_
        rintro e w4 ⟨rfl, rfl⟩
        go_wp2_with fail
        refine (works44 _).mono ?_
        rintro e w9 ⟨rfl, hb9⟩
        have HB := Lib.hid (HB3.out.trans ((Below.on HA.out.below hb9).mono HB3.out.size))
        clear hb9
        go_wp2
        go_ret
        exact ⟨rfl, HB.out⟩
      · have h4 : at_ ≤ q := by omega
        clear h3
        go_wp2_with fail
        refine (new_at W3).mono ?_
        rintro e w1 ⟨h, rfl, ha⟩
        have HA := Lib.hid ha
        clear ha
        go_wp2_with fail
        refine (add_yes (s := et) HA.out.obj (by omega) HA.out.size (by decide) (by decide) (by omega) (by omega) (by omega) (by omega) (by omega)).mono ?_
        rintro e w2 hk
        obtain rfl := hk.1
        replace HA := Lib.hid (HA.out.left hk)
        clear hk
        go_wp2_with fail
        refine (claim_got (s := et) (u := a) HA.out.obj HA.out.size (by decide) (idx_one _ _) (Cm.ck1_ok (by rfl) (show p ≤ at_ by omega) (show at_ ≤ q by omega) (show a ≤ 1000000000000 by omega) (by omega)) (Cm.lsum_one _ _ (Cm.ck1_can (by rfl) (show p ≤ at_ by omega) (show at_ ≤ q by omega)))).mono ?_
        rintro e w3 hk
        obtain rfl := hk.1
        have HS := Lib.hid (Cm.pay_one (Cm.ck1_can (F := upd (fun _ => (0 : Int)) 0 p) (E := upd (fun _ => (0 : Int)) 0 q) (S := upd (fun _ => (0 : Int)) 0 0) (at_ := at_) rfl (show p ≤ at_ by omega) (show at_ ≤ q by omega)))
        replace HA := Lib.hid (HA.out.left hk)
        clear hk
        go_wp2_with fail
        refine (claim_not (s := et) (y := 17) HA.out.obj HA.out.size (by decide) (idx_one _ _) (Cm.ck1_paid HS.out) (by decide)).mono ?_
        rintro e w4 hk
        obtain rfl := hk.1
        replace HA := Lib.hid (HA.out.left hk)
        clear hk
        go_wp2_with fail
        refine (copen_at HA.out.obj (cnt_one_not (by rw [HS.out]; decide))).mono ?_
        rintro e w5 ⟨rfl, rfl⟩
        go_wp2_with fail
        refine (works44 _).mono ?_
        rintro e w9 ⟨rfl, hb9⟩
        have HB := Lib.hid (HB3.out.trans ((Below.on HA.out.below hb9).mono HB3.out.size))
        clear hb9
        go_wp2
        go_ret
        exact ⟨rfl, HB.out⟩
theorem claimAlone_walk (W : World) (a : Int) (wa : (Lit.int .i64 a).wf = true) (at_ : Int) (wt : (Lit.int .i64 at_).wf = true) {x y : Int} (hx : 0 ≤ x ∧ x ≤ 4294967295) (hy : 0 ≤ y ∧ y ≤ 4294967295) :
    Calls Try.prog 4 #[.int .i64 a, .int .i64 at_, .agg #[.int .u32 x, .int .u32 y]] W fun e w' => e = .returned (.bool true) ∧ Below W.heap.size W w' := by
  by_cases hb : a < 1 ∨ 1000000000000 < a
  · exact claimAlone_bad W a at_ hx hy hb
  · exact claimAlone_good W a at_ hx hy (by omega) (by omega)
end Go.Proofs.Ytpalmlcepppifaa
