/- The walk of the law RetailerDoes. -/
import Derived.Test.YtpalmlcepppifaaRetSpec
set_option linter.unusedVariables false
namespace Go.Proofs.Ytpalmlcepppifaa
open Go.RowKit

/-- The program's account and the reference's, in the same state. -/
structure Both (W w : World) (B g h : Nat) (t : Rt.Tm) (x : Rt.St) (L : Nat) : Prop where
  sit : Sit W w g t x
  ref : RefE B w h t x L
  gB : g < B
  WB : W.heap.size < B
  Bw : B ≤ w.heap.size
theorem Sit.belowB {W w w1 : World} {B g : Nat} {t : Rt.Tm} {x : Rt.St} (h : Sit W w g t x) (hb : Below B w w1) (hg : g < B) (hW : W.heap.size < B) : Sit W w1 g t x :=
  ⟨h.obj.below hb hg, h.okx, h.box.below hb hW, h.below.trans (hb.mono (Nat.le_of_lt hW)), h.hg⟩
theorem Both.keep {W w w1 : World} {B g h : Nat} {t : Rt.Tm} {x : Rt.St} {L : Nat} (b : Both W w B g h t x L) (hb : Below w.heap.size w w1) : Both W w1 B g h t x L :=
  ⟨b.sit.keep hb, b.ref.keep hb, b.gB, b.WB, Nat.le_trans b.Bw hb.size⟩
theorem Both.alloc {W w : World} {B g h : Nat} {t : Rt.Tm} {x : Rt.St} {L : Nat} (b : Both W w B g h t x L) (o : Go.Obj) : Both W (w.alloc o) B g h t x L := b.keep ((Below.refl _ _).alloc (Nat.le_refl _) o)

set_option maxHeartbeats 4000000 in
set_option maxRecDepth 100000 in
theorem retailerDoes_walk (W : World) {t : Rt.Tm} (_ : t = t) {A : Option Addr} {n c : Nat} {K M : Nat → Int} (hn : n ≤ c) (hc : c ≤ maxLen) (h : Cells W A (n * 2) (Two K M)) (hw : ∀ i, i < n → (Lit.int .i64 (K i)).wf = true ∧ (Lit.int .i64 (M i)).wf = true) :
    Calls Try.prog 6 #[.agg (termsC t), .slice A n c] W fun e w' => e = .returned (.bool true) ∧ Below W.heap.size W w' := by
  unfold maxLen at hc
  clear hw
  unfold termsC
  by_cases ht : Rt.okT t
  · have HT := Lib.hid ht
    clear ht
    by_cases h80 : 80 < n
    · go_enter Try.func6, Try.ntmps6
      go_wp2_with fail
      refine (new_sit HT.out).mono ?_
      rintro e w1 ⟨g, rfl, hs⟩
      obtain ⟨q0, q1, q2, q3, q4⟩ := hs.cells
      have HS := Lib.hid hs
      clear hs
      go_wp2_with fail
      refine (refNew_ok HT.out).mono ?_
      rintro e w2 ⟨r, rfl, _, hb2⟩
      replace HS := Lib.hid (HS.out.keep hb2)
      clear hb2 q0 q1 q2 q3 q4
      go_wp2_with fail
      refine (awake49 _).mono ?_
      rintro e w9 ⟨rfl, hb9⟩
      have HB := Lib.hid (Below.on HS.out.below hb9)
      clear hb9
      go_wp2
      go_ret
      exact ⟨rfl, HB.out⟩
    · go_enter Try.func6, Try.ntmps6
      go_wp2_with fail
      refine (new_sit HT.out).mono ?_
      rintro e w1 ⟨g, rfl, hs⟩
      obtain ⟨q0, q1, q2, q3, q4⟩ := hs.cells
      have hgz : g < w1.heap.size := hs.obj.lt
      have hWz : W.heap.size < w1.heap.size := hs.box.lt
      have HS := Lib.hid hs
      clear hs
      go_wp2_with fail
      refine (refNew_ok HT.out).mono ?_
      rintro e w2 ⟨r, rfl, hre, hb2⟩
      have HS2 := Lib.hid (show Both W w2 w1.heap.size g r t Rt.zero 0 from ⟨HS.out.keep hb2, hre, hgz, hWz, hb2.size⟩)
      obtain ⟨B, hB⟩ : ∃ B, B = w1.heap.size := ⟨_, rfl⟩
      rw [← hB] at HS2
      clear hre hb2 q0 q1 q2 q3 q4 HS hgz hWz hB
      go_wp2_with fail
      go_loopw [9] (fun i wr => ∃ (k : Nat) (x : Rt.St), k ≤ n ∧ i = .int .i64 k ∧ Both W wr B g r t x k) (fun i _ => n - (intOf i).toNat)
      case atStart => exact ⟨0, Rt.zero, Nat.zero_le _, rfl, HS2.out⟩
      case round =>
        clear HS2
        obtain ⟨k, x0, hk, rfl, hs⟩ := hrel
        have HS := Lib.hid hs
        clear hs
        by_cases hkn : k < n
        · obtain ⟨x, hx'⟩ : ∃ x', Rt.nxt t x0 (K k) (M k) = x' := ⟨_, rfl⟩
          have hok := Rt.okS_nxt (t := t) (k := K k) (a := M k) HS.out.sit.okx
          rw [hx'] at hok
          have HOK := Lib.hid hok
          obtain ⟨y, hyy⟩ : ∃ y, Rt.err t x0 (K k) (M k) = y := ⟨_, rfl⟩
          obtain ⟨o0, o1, o2, o3, o4, hout⟩ := out_letters t x0 (K k)
          obtain ⟨cc, d, hset⟩ := set_letters t x
          obtain ⟨b, off, rfl, hlt, hc1, hc2⟩ := (h.below HS.out.sit.below).two hkn
          have HN := Lib.hid hx'
          have HY := Lib.hid hyy
          have HO := Lib.hid hout
          have HV := Lib.hid hset
          clear hx' hyy hout hset hok
          go_wp2_with fail
          refine (act_at HS.out.sit.obj HT.out HS.out.sit.okx HN.out HY.out HO.out).mono ?_
          rintro e w3 ⟨rfl, ho3, hb3⟩
          have HS3 := Lib.hid (HS.out.sit.told HOK.out ho3 hb3)
          obtain ⟨v, nn, F, hr3⟩ := HS.out.ref.only hb3 HS.out.gB
          have HB3 := Lib.hid (Nat.le_trans HS.out.Bw hb3.size)
          have HGB := Lib.hid HS.out.gB
          have HWB := Lib.hid HS.out.WB
          have hold := hr3.old (Nat.le_refl _)
          have HOLD := Lib.hid hold
          have HR3 := Lib.hid (hr3.keep ((Below.refl _ _).alloc (Nat.le_refl _) (.cells #[.int .i64 o0, .int .i64 o1, .int .i64 o2, .int .i64 o3, .int .i64 o4] 44)))
          have HQ := Lib.hid (Blk.new w3 44 #[.int .i64 o0, .int .i64 o1, .int .i64 o2, .int .i64 o3, .int .i64 o4])
          obtain ⟨b', off', hA2, hlt, hc1, hc2⟩ := (h.below HS3.out.below).two hkn
          injection hA2 with hA2
          injection hA2 with hA3 hA4
          subst hA3 hA4
          have HS3a := Lib.hid (HS3.out.alloc (.cells #[.int .i64 o0, .int .i64 o1, .int .i64 o2, .int .i64 o3, .int .i64 o4] 44))
          clear ho3 hb3 hr3 hold HS HS3
          go_wp2_with fail
          refine (spec_any (k := K k) (a := M k) HR3.out (by omega) HT.out (Nat.le_trans HB3.out (by simp))).mono ?_
          rintro e w4 ⟨rfl, hr4, hb4, hf4⟩
          rw [HN.out] at hr4
          rw [HY.out, HO.out]
          have hQ4 : Blk w4 w3.heap.size 44 #[.int .i64 o0, .int .i64 o1, .int .i64 o2, .int .i64 o3, .int .i64 o4] := (hf4 _ (by simp) HOLD.out.2.symm HOLD.out.1).trans HQ.out
          have HS4 := Lib.hid (show Both W w4 B g r t x (k + 1) from ⟨HS3a.out.belowB hb4 HGB.out HWB.out, hr4, HGB.out, HWB.out, Nat.le_trans (Nat.le_trans HB3.out (by simp)) hb4.size⟩)
          obtain ⟨j0, j1, j2, j3, j4, _⟩ := set_at hQ4
          have hqz := hQ4.lt
          clear hr4 hb4 hf4 hQ4 HQ HR3 HOLD HS3a HB3 hc1 hc2 hlt
          go_wp2_with fail
          refine (open_at (HS4.out.alloc _).sit.obj HT.out HOK.out HV.out).mono ?_
          rintro e w5 ⟨rfl, hb5⟩
          replace HS4 := Lib.hid ((HS4.out.alloc _).keep hb5)
          clear hb5 j0 j1 j2 j3 j4
          go_wp2_with fail
          refine (refOpen_any HS4.out.ref (by omega) HT.out).mono ?_
          rintro e w6 ⟨rfl, hb6⟩
          rw [HV.out]
          replace HS4 := Lib.hid (HS4.out.keep hb6)
          clear hb6
          go_wp2
          go_roundw
          case rel => exact ⟨k + 1, x, by omega, by go_num, HS4.out⟩
          case measure => simp [intOf] <;> omega
        · obtain rfl : k = n := by omega
          go_wp2_with fail
          refine (awake49 _).mono ?_
          rintro e w2 ⟨rfl, hb2⟩
          have HB := Lib.hid (Below.on HS.out.sit.below hb2)
          clear hb2
          go_wp2
          go_ret
          exact ⟨rfl, HB.out⟩
  · have HT := Lib.hid ht
    clear ht
    go_enter Try.func6, Try.ntmps6
    go_wp2_with fail
    refine (new_bad (t := t) HT.out).mono ?_
    rintro e w1 ⟨rfl, hb1⟩
    have hBx : Blk w1 W.heap.size 36 (termsC t) := (Blk.new W 36 (termsC t)).keep hb1
    have HB1 := Lib.hid (Below.on ((Below.refl _ _).alloc (Nat.le_refl _) _) hb1)
    obtain ⟨q0, q1, q2, q3, q4, _⟩ := set_at hBx
    clear hb1 hBx
    go_wp2_with fail
    refine (refNew_bad HT.out).mono ?_
    rintro e w2 ⟨rfl, hb2⟩
    replace HB1 := Lib.hid (Below.on HB1.out hb2)
    clear hb2
    go_wp2_with fail
    refine (awake49 _).mono ?_
    rintro e w9 ⟨rfl, hb9⟩
    have HB := Lib.hid (Below.on HB1.out hb9)
    clear hb9
    go_wp2
    go_ret
    exact ⟨rfl, HB.out⟩
end Go.Proofs.Ytpalmlcepppifaa
