/- The walk of the reference's Valid. -/
import Derived.Test.YtiflmnmkmpjecaaFrRMake
import Derived.Deep.RegionHeld3
set_option linter.unusedVariables false
namespace Go.Proofs.Ytiflmnmkmpjecaa
open Go.RowKit
namespace Fr
set_option maxHeartbeats 4000000 in
set_option maxRecDepth 100000 in
theorem rfvalid_any {D E : Option Addr} {n m c c' x y : Nat} {w : World} (hn : n ≤ 64) (hm : m ≤ 64) (hnx : n = L32 x) (hmy : m = L32 y) (hx : Cells w D n (Lm (d32 x))) (hy : Cells w E m (Lm (d32 y))) :
    Calls Try.prog 44 #[fv D n c E m c'] w fun e w' => e = .returned (.bool (fok x y)) ∧ Below w.heap.size w w' := by
  have hvx := Lib.hid (vd_true hn hnx)
  have hvy := Lib.hid (vd_true hm hmy)
  have HM0 := Lib.hid (show m = 0 ↔ y = 0 by rw [hmy]; exact L32_zero)
  have HX := Lib.hid hnx
  have HY := Lib.hid hmy
  obtain ⟨g, hg⟩ : ∃ g, g = Nat.gcd x y := ⟨_, rfl⟩
  obtain ⟨lg, hlg2⟩ : ∃ l, l = L32 g := ⟨_, rfl⟩
  have HG64 : Hid (lg ≤ 64) := by rw [hlg2, hg]; exact Lib.hid (gcd_len (x := x) (y := y) (by omega) (by omega))
  have HGG := Lib.hid hg
  have HLG := Lib.hid hlg2
  clear hg hlg2 hnx hmy
  have BS0 := Lib.hid (box1 w (.slice D n c) (.slice E m c'))
  unfold fv
  go_enter Try.func44, Try.ntmps44
  go_wp2_with fail
  refine (rvalid_is (by omega) (hx.below BS0.out.below) hvx.out).mono ?_
  rintro e w1 ⟨rfl, hb1⟩
  have BS1 := Lib.hid (BS0.out.on hb1)
  clear hb1 BS0
  obtain ⟨_, h1, k1⟩ := BS1.out.get (.head _)
  have q1 : w1.cell? ⟨w.heap.size, 1, none⟩ = some (.slice E m c') := k1.cell 1
  clear k1
  go_wp2_with fail
  refine (rvalid_is (by omega) (hy.below BS1.out.below) hvy.out).mono ?_
  rintro e w2 ⟨rfl, hb1⟩
  clear h1 q1
  have BS2 := Lib.hid (BS1.out.on hb1)
  clear hb1 BS1
  obtain ⟨_, h1, k1⟩ := BS2.out.get (.head _)
  have q0 : w2.cell? ⟨w.heap.size, 0, none⟩ = some (.slice D n c) := k1.cell 0
  have q1 : w2.cell? ⟨w.heap.size, 1, none⟩ = some (.slice E m c') := k1.cell 1
  clear k1
  by_cases hm0 : m = 0
  · have HR : Hid (fok x y = false) := Lib.hid (by unfold fok; rw [HM0.out.1 hm0]; rfl)
    have HB := Lib.hid BS2.out.below
    subst hm0
    go_wp2
    go_ret
    exact ⟨by rw [HR.out]; rfl, HB.out⟩
  · have hmz : ((m : Int) == 0) = false := by simp; omega
    have HY0 : Hid (0 < y) := Lib.hid (by have := HM0.out; omega)
    clear hm0
    go_wp2_with fail
    refine (refGCD_any (x := x) (y := y) hn hm HX.out HY.out (hx.below BS2.out.below) (hy.below BS2.out.below)).mono ?_
    rintro e w3 ⟨Dg, cg, rfl, hlg, hcg, hfg, hb3⟩
    rw [← HGG.out, ← HLG.out] at hlg hcg ⊢
    have BS3 := Lib.hid ((BS2.out.on hb3).alloc 32 #[.slice Dg lg cg])
    have HCG := Lib.hid (hcg.alloc (.cells #[.slice Dg lg cg] 32))
    clear hcg hlg hfg hb3 BS2 q0 q1 h1
    unfold natv
    go_wp2_with fail
    obtain ⟨wa, hwa⟩ : ∃ wa, wa = w3.alloc (.cells #[.slice Dg lg cg] 32) := ⟨_, rfl⟩
    rw [← hwa] at BS3 HCG ⊢
    clear hwa
    obtain ⟨q3, hq3⟩ : ∃ q, q = w3.heap.size := ⟨_, rfl⟩
    rw [← hq3] at BS3 ⊢
    clear hq3
    have HALL : Hid (∀ w', Below wa.heap.size wa w' → w'.cell? ⟨q3, 0, none⟩ = some (.slice Dg lg cg) ∧ Below wa.heap.size wa w') := Lib.hid fun w' hw => ⟨((BS3.out.on hw).get (.head _)).2.2.cell 0, hw⟩
    have HL1 := Lib.hid (L32_one (k := 1) (by omega) (by omega))
    have HOF : Hid (∀ w', Below wa.heap.size wa w' → Calls Try.prog 32 #[.int .u64 1] w' fun e w'' => ∃ D1 c1, e = .returned (.agg #[.slice D1 1 c1]) ∧ Cells w'' D1 1 (Lm (d32 1)) ∧ Below wa.heap.size wa w'') := Lib.hid fun w' hw => by
      refine (refOf_any 1 (by omega) w').mono ?_
      rintro e w'' ⟨D1, c1, rfl, _, h2, h3⟩
      rw [HL1.out] at h2 ⊢
      exact ⟨D1, c1, rfl, h2, Below.on hw h3⟩
    have HCM : Hid (∀ w' D1 c1, Cells w' D1 1 (Lm (d32 1)) → Below wa.heap.size wa w' → Calls Try.prog 76 #[.agg #[.slice Dg lg cg], .agg #[.slice D1 1 c1]] w' fun e w'' => e = .returned (.int .i64 (cmpI g 1)) ∧ Below wa.heap.size wa w'') := Lib.hid fun w' D1 c1 h1 hw =>
      (rCmp_any (x := g) (y := 1) HG64.out (by omega) HLG.out HL1.out.symm (HCG.out.below hw) h1).mono fun e w'' ⟨h2, h3⟩ => ⟨h2, Below.on hw h3⟩
    have A0 : Below wa.heap.size wa wa.drew := (Below.refl _ _).drew
    have HR : Hid (fok x y = (cmpI g 1 == 0)) := Lib.hid (by
      unfold fok
      rw [decide_eq_true HY0.out, Bool.true_and]
      rw [← HGG.out]
      unfold cmpI
      by_cases h : g = 1
      · subst h; rfl
      · rw [beq_eq_false_iff_ne.2 h]
        split
        · rfl
        · split
          · rfl
          · omega)
    go_region_held3 (fun w' => w'.cell? ⟨q3, 0, none⟩ = some (.slice Dg lg cg) ∧ Below wa.heap.size wa w')
      (first
        | exact HALL.out _ (by assumption))
      (first
        | (go_at_call 32; (with_reducible refine (HOF.out _ ?_).mono ?_); (assumption); rintro e5 w5 ⟨D1, c1, rfl, hc1, t5⟩)
        | (go_at_call 76; (with_reducible refine (HCM.out _ _ _ hc1 ?_).mono ?_); (assumption); rintro e6 w6 ⟨rfl, t6⟩)
        | fail)
    all_goals
      have HB := Lib.hid (Below.on BS3.out.below t6)
      clear t5 t6 A0
      go_wp2
      go_ret
      exact ⟨by rw [HR.out]; rfl, HB.out⟩
set_option maxHeartbeats 4000000 in
theorem rfvalid_bad {D E : Option Addr} {n m c c' : Nat} {f g : Nat → Nat} {w : World} (hn : n ≤ 9223372036854775807) (hm : m ≤ 9223372036854775807) (hx : Cells w D n (Lm f)) (hy : Cells w E m (Lm g)) (hv : vd n f = false ∨ vd n f = true ∧ vd m g = false) :
    Calls Try.prog 44 #[fv D n c E m c'] w fun e w' => e = .returned (.bool false) ∧ Below w.heap.size w w' := by
  have BS0 := Lib.hid (box1 w (.slice D n c) (.slice E m c'))
  unfold fv
  rcases hv with hv | ⟨hv, hv2⟩
  · have HV := Lib.hid hv
    clear hv
    go_enter Try.func44, Try.ntmps44
    go_wp2_with fail
    refine (rvalid_is hn (hx.below BS0.out.below) HV.out).mono ?_
    rintro e w1 ⟨rfl, hb1⟩
    have HB := Lib.hid (BS0.out.on hb1).below
    clear hb1
    go_wp2
    go_ret
    exact ⟨rfl, HB.out⟩
  · have HV := Lib.hid hv
    have HV2 := Lib.hid hv2
    clear hv hv2
    go_enter Try.func44, Try.ntmps44
    go_wp2_with fail
    refine (rvalid_is hn (hx.below BS0.out.below) HV.out).mono ?_
    rintro e w1 ⟨rfl, hb1⟩
    have BS1 := Lib.hid (BS0.out.on hb1)
    clear hb1 BS0
    obtain ⟨_, h1, k1⟩ := BS1.out.get (.head _)
    have q1 : w1.cell? ⟨w.heap.size, 1, none⟩ = some (.slice E m c') := k1.cell 1
    clear k1
    go_wp2_with fail
    refine (rvalid_is hm (hy.below BS1.out.below) HV2.out).mono ?_
    rintro e w2 ⟨rfl, hb1⟩
    have HB := Lib.hid (BS1.out.on hb1).below
    clear hb1
    go_wp2
    go_ret
    exact ⟨rfl, HB.out⟩
end Fr
end Go.Proofs.Ytiflmnmkmpjecaa
