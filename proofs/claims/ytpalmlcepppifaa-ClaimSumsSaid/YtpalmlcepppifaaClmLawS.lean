/- The walk of the law ClaimSums. -/
import Derived.Test.YtpalmlcepppifaaClmSumsP
set_option linter.unusedVariables false
namespace Go.Proofs.Ytpalmlcepppifaa
open Go.RowKit Go.Maps Go.ChangeShapes Go.WideElems Go.WideMaps

theorem sum_eq {B : Nat} {w : World} {h n : Nat} {N : Nat → ByteArray} {A F E S : Nat → Int} {p0 p1 p2 : Int} (c : Claims B w h n N A F E S) (h0 : Cm.psum A S 0 n = p0) (h1 : Cm.psum A S 1 n = p1) (h2 : Cm.psum A S 2 n = p2) :
    Calls Try.prog 36 #[.pointer (some ⟨h, 0, none⟩)] w fun e w' => e = .returned (.tuple #[.int .i64 p0, .int .i64 p1, .int .i64 p2]) ∧ Below w.heap.size w w' := by
  rw [← h0, ← h1, ← h2]; exact sum_any c
theorem ck_no {A F E S : Nat → Int} {at_ most : Int} {l : List Nat} (h : l.any (Cm.can F E S at_) = false) : Cm.ckE A F E S at_ most l ≠ 0 := by
  unfold Cm.ckE
  by_cases e : l = []
  · rw [if_pos e]; decide
  · rw [if_neg e, if_pos h]
    split
    · decide
    · split <;> decide
theorem ck_yes {A F E S : Nat → Int} {at_ : Int} {l : List Nat} (h : l.any (Cm.can F E S at_) = true) (hs : Cm.lsum (Cm.can F E S at_) A l ≤ 1000000000000) : Cm.ckE A F E S at_ 0 l = 0 := by
  unfold Cm.ckE
  have e : l ≠ [] := by intro e; rw [e] at h; simp at h
  rw [if_neg e, if_neg (by rw [h]; decide), if_neg (by omega), if_neg (by omega)]

set_option maxHeartbeats 8000000 in
set_option maxRecDepth 100000 in
theorem claimSums_walk (W : World) {D : Option Addr} {m c : Nat} {R : Nat → T3} (hm : m ≤ c) (hc : c ≤ maxLen) (hD : Cells W D (m * 3) (Tri R)) (hR : ∀ i, i < m → (0 ≤ (R i).x ∧ (R i).x ≤ 65535) ∧ (0 ≤ (R i).y ∧ (R i).y ≤ 65535) ∧ (0 ≤ (R i).z ∧ (R i).z ≤ 65535)) (t : Int) (wt : (Lit.int .u16 t).wf = true) :
    Calls Try.prog 13 #[.slice D m c, .int .u16 t] W fun e w' => e = .returned (.bool true) ∧ Below W.heap.size W w' := by
  unfold maxLen at hc
  obtain ⟨t0, t1⟩ := wf_at_u16 wt
  have HR := Lib.hid hR
  clear wt hR
  go_enter Try.func13, Try.ntmps13
  go_wp2_with fail
  refine (new_at W).mono ?_
  rintro e w1 ⟨h, rfl, ha⟩
  have HA := Lib.hid ha
  clear ha
  go_wp2_with fail
  go_loopw [6, 7, 8] (fun v6 v7 i wr => ∃ (k n : Nat) (N : Nat → ByteArray) (A F E S : Nat → Int) (all want : Int), k ≤ m ∧ k ≤ 20 ∧ i = .int .i64 k ∧ v6 = .int .i64 want ∧ v7 = .int .i64 all ∧ At W wr h n N A F E S ∧ Smm k n N A F E S t all want) (fun _ _ i _ => m - (intOf i).toNat)
  case atStart => exact ⟨0, 0, _, _, _, _, _, 0, 0, Nat.zero_le _, Nat.zero_le _, rfl, rfl, rfl, HA.out, ⟨rfl, rfl, by simp [Cm.psum], rfl, rfl, fun i hi => absurd hi (by omega), by simp, by simp⟩⟩
  case round =>
    clear HA
    obtain ⟨k, n, N, A, F, E, S, all, want, hk, hk20, rfl, rfl, rfl, ha, hsm⟩ := hrel
    have HA := Lib.hid ha
    have HS := Lib.hid hsm
    obtain ⟨⟨v0, v1⟩, ⟨a0, a1⟩⟩ := And.intro hsm.w0 hsm.a0
    have hn2 := hsm.nk
    have hn40 : n ≤ 40 := by omega
    have v2 : want ≤ 2000000 := by omega
    have a2 : all ≤ 2000000 := by omega
    clear ha hsm hn2 v1 a1
    by_cases hkn : k < m ∧ k < 20
    · obtain ⟨hkm, hk6⟩ := hkn
      obtain ⟨b, off, rfl, hlt, p0, p1, p2⟩ := (hD.below HA.out.below).tri hkm
      obtain ⟨⟨x0, x1⟩, ⟨y0, y1⟩, ⟨z0, z1⟩⟩ := HR.out k hkm
      obtain ⟨x, hx⟩ : ∃ x, x = (R k).x := ⟨_, rfl⟩
      obtain ⟨y, hy⟩ : ∃ y, y = (R k).y := ⟨_, rfl⟩
      obtain ⟨z, hz⟩ : ∃ z, z = (R k).z := ⟨_, rfl⟩
      rw [← hx] at p0 x0 x1
      rw [← hy] at p1 y0 y1
      rw [← hz] at p2 z0 z1
      clear hx hy hz
      have hki0 : (0 : Int) ≤ (k : Int) := by omega
      have hki1 : (k : Int) < (m : Int) := by omega
      have g0 : 0 ≤ (if z < y then z else y) := by split <;> omega
      have g1 : (if z < y then z else y) ≤ 65535 := by split <;> omega
      have g2 : 0 ≤ (if y < z then z else y) := by split <;> omega
      have g3 : (if y < z then z else y) ≤ 65535 := by split <;> omega
      have g4 : (if z < y then z else y) ≤ (if y < z then z else y) := by split <;> split <;> omega
      have z9 : IntKind.i64.wrap (x + 1) = x + 1 := IntWalk.i64_in _ (by omega)
      go_wp2_with fail
      go_quiet (fail)
      clear z9
      replace HA := Lib.hid (HA.out.keep (below_drewN (Below.refl wr.heap.size wr) nq))
      clear p0 p1 p2 hlt
      generalize wr.drewN nq = wr2 at HA ⊢
      have G := And.intro g0 (And.intro g1 (And.intro g2 (And.intro g3 g4)))
      clear g0 g1 g2 g3 g4
      generalize (if z < y then z else y) = f at G ⊢
      generalize (if y < z then z else y) = u at G ⊢
      obtain ⟨g0, g1, g2, g3, g4⟩ := G
      go_wp2_with fail
      refine (add_yes (s := et) HA.out.obj (by omega) HA.out.size (by decide) (by decide) (by omega) (by omega) (by omega) (by omega) (by omega)).mono ?_
      rintro e w4 hk4
      obtain rfl := hk4.1
      replace HA := Lib.hid (HA.out.left hk4)
      clear hk4
      go_wp2_with fail
      refine (add_yes (s := eu) HA.out.obj (by omega) HA.out.size (by decide) (by decide) (by omega) (by omega) (by omega) (by omega) (by omega)).mono ?_
      rintro e w5 hk5
      obtain rfl := hk5.1
      replace HA := Lib.hid (HA.out.left hk5)
      clear hk5
      by_cases c1 : f ≤ t
      · by_cases c2 : t ≤ u
        · replace HS := Lib.hid (HS.out.next (a := x + 1) (f := f) (t := u) (by omega) (by omega) (want' := want + (x + 1)) (by rw [if_pos ⟨c1, c2⟩]))
          go_wp2
          go_roundw
          case rel => exact ⟨k + 1, _, _, _, _, _, _, _, _, by omega, by omega, by go_num, rfl, rfl, HA.out, HS.out⟩
          case measure => simp [intOf] <;> omega
        · replace HS := Lib.hid (HS.out.next (a := x + 1) (f := f) (t := u) (by omega) (by omega) (want' := want) (by rw [if_neg (fun h => c2 h.2)]))
          go_wp2
          go_roundw
          case rel => exact ⟨k + 1, _, _, _, _, _, _, _, _, by omega, by omega, by go_num, rfl, rfl, HA.out, HS.out⟩
          case measure => simp [intOf] <;> omega
      · replace HS := Lib.hid (HS.out.next (a := x + 1) (f := f) (t := u) (by omega) (by omega) (want' := want) (by rw [if_neg (fun h => c1 h.1)]))
        go_wp2
        go_roundw
        case rel => exact ⟨k + 1, _, _, _, _, _, _, _, _, by omega, by omega, by go_num, rfl, rfl, HA.out, HS.out⟩
        case measure => simp [intOf] <;> omega
    · have hend : k = m ∨ (k = 20 ∧ 20 < m) := by omega
      clear hkn
      have hany := Cm.lsum_none (p := Cm.can F E S t) (A := A) (l := idx N et n) (fun i hi => HS.out.am i (idx_lt hi))
      rw [HS.out.wa] at hany
      rcases hend with hend | ⟨hend, h20⟩
      · subst hend
        have hmn : ((20 : Int) < (k : Int)) = False := eq_false (by omega)
        rcases hany with ⟨hw, hany⟩ | ⟨hw, hany⟩
        · subst hw
          obtain ⟨y, hy⟩ : ∃ y, Cm.ckE A F E S t 0 (idx N et n) = y := ⟨_, rfl⟩
          have hyn : y ≠ 0 := by rw [← hy]; exact ck_no hany
          have dy : (y != 0) = true := by simp [hyn]
          have HY := Lib.hid hy
          clear hy hany
          go_wp2_with fail
          refine (claim_not (s := et) (l := idx N et n) HA.out.obj HA.out.size (by decide) rfl HY.out hyn).mono ?_
          rintro e w4 hk4
          obtain rfl := hk4.1
          replace HA := Lib.hid (HA.out.left hk4)
          clear hk4
          go_wp2_with fail
          refine (sum_eq HA.out.obj HS.out.s0 HS.out.s1 HS.out.s2).mono ?_
          rintro e w5 ⟨rfl, hb5⟩
          replace HA := Lib.hid (HA.out.keep hb5)
          clear hb5
          go_wp2_with fail
          refine (works44 _).mono ?_
          rintro e w9 ⟨rfl, hb9⟩
          have HB := Lib.hid (Below.on HA.out.below hb9)
          clear hb9
          go_wp2
          go_ret
          exact ⟨rfl, HB.out⟩
        · have HY := Lib.hid (ck_yes (A := A) (F := F) (E := E) (S := S) (at_ := t) hany (by rw [HS.out.wa]; omega))
          have dw : (want == 0) = false := by simp; omega
          have hP := Cm.psum_pay (A := A) (F := F) (E := E) (S := S) (N := N) (s := et) (at_ := t) n (Nat.le_refl n)
          rw [HS.out.wa, HS.out.s0, HS.out.s1, HS.out.s2] at hP
          obtain ⟨P0, P1, P2⟩ := hP
          have HP0 := Lib.hid (P0.trans (show all + 7 * (k : Int) - want = all - want + 7 * (k : Int) by omega))
          have HP1 := Lib.hid (P1.trans (Int.zero_add _))
          have HP2 := Lib.hid P2
          clear P0 P1 P2 hany
          go_wp2_with fail
          refine (claim_got (s := et) (l := idx N et n) HA.out.obj HA.out.size (by decide) rfl HY.out HS.out.wa).mono ?_
          rintro e w4 hk4
          obtain rfl := hk4.1
          replace HA := Lib.hid (HA.out.left hk4)
          clear hk4
          go_wp2_with fail
          refine (sum_eq HA.out.obj HP0.out HP1.out HP2.out).mono ?_
          rintro e w5 ⟨rfl, hb5⟩
          replace HA := Lib.hid (HA.out.keep hb5)
          clear hb5
          go_wp2_with fail
          refine (works44 _).mono ?_
          rintro e w9 ⟨rfl, hb9⟩
          have HB := Lib.hid (Below.on HA.out.below hb9)
          clear hb9
          go_wp2
          go_ret
          exact ⟨rfl, HB.out⟩
      · subst hend
        have hmn : ((20 : Int) < (m : Int)) = True := eq_true (by omega)
        rcases hany with ⟨hw, hany⟩ | ⟨hw, hany⟩
        · subst hw
          obtain ⟨y, hy⟩ : ∃ y, Cm.ckE A F E S t 0 (idx N et n) = y := ⟨_, rfl⟩
          have hyn : y ≠ 0 := by rw [← hy]; exact ck_no hany
          have dy : (y != 0) = true := by simp [hyn]
          have HY := Lib.hid hy
          clear hy hany
          go_wp2_with fail
          refine (claim_not (s := et) (l := idx N et n) HA.out.obj HA.out.size (by decide) rfl HY.out hyn).mono ?_
          rintro e w4 hk4
          obtain rfl := hk4.1
          replace HA := Lib.hid (HA.out.left hk4)
          clear hk4
          go_wp2_with fail
          refine (sum_eq HA.out.obj HS.out.s0 HS.out.s1 HS.out.s2).mono ?_
          rintro e w5 ⟨rfl, hb5⟩
          replace HA := Lib.hid (HA.out.keep hb5)
          clear hb5
          go_wp2_with fail
          refine (works44 _).mono ?_
          rintro e w9 ⟨rfl, hb9⟩
          have HB := Lib.hid (Below.on HA.out.below hb9)
          clear hb9
          go_wp2
          go_ret
          exact ⟨rfl, HB.out⟩
        · have HY := Lib.hid (ck_yes (A := A) (F := F) (E := E) (S := S) (at_ := t) hany (by rw [HS.out.wa]; omega))
          have dw : (want == 0) = false := by simp; omega
          have hP := Cm.psum_pay (A := A) (F := F) (E := E) (S := S) (N := N) (s := et) (at_ := t) n (Nat.le_refl n)
          rw [HS.out.wa, HS.out.s0, HS.out.s1, HS.out.s2] at hP
          obtain ⟨P0, P1, P2⟩ := hP
          have HP0 := Lib.hid (P0.trans (show all + 7 * ((20 : Nat) : Int) - want = all - want + 7 * ((20 : Nat) : Int) by omega))
          have HP1 := Lib.hid (P1.trans (Int.zero_add _))
          have HP2 := Lib.hid P2
          clear P0 P1 P2 hany
          go_wp2_with fail
          refine (claim_got (s := et) (l := idx N et n) HA.out.obj HA.out.size (by decide) rfl HY.out HS.out.wa).mono ?_
          rintro e w4 hk4
          obtain rfl := hk4.1
          replace HA := Lib.hid (HA.out.left hk4)
          clear hk4
          go_wp2_with fail
          refine (sum_eq HA.out.obj HP0.out HP1.out HP2.out).mono ?_
          rintro e w5 ⟨rfl, hb5⟩
          replace HA := Lib.hid (HA.out.keep hb5)
          clear hb5
          go_wp2_with fail
          refine (works44 _).mono ?_
          rintro e w9 ⟨rfl, hb9⟩
          have HB := Lib.hid (Below.on HA.out.below hb9)
          clear hb9
          go_wp2
          go_ret
          exact ⟨rfl, HB.out⟩
end Go.Proofs.Ytpalmlcepppifaa
