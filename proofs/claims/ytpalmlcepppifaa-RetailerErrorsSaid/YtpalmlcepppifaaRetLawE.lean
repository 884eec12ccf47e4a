/- The walk of the law RetailerErrors. -/
import Derived.Test.YtpalmlcepppifaaRetSit
set_option linter.unusedVariables false
namespace Go.Proofs.Ytpalmlcepppifaa
open Go.RowKit

set_option maxHeartbeats 2000000 in
set_option maxRecDepth 100000 in
theorem retailerErrors_walk (W : World) {t : Rt.Tm} (_ : t = t) {A : Option Addr} {n c : Nat} {K M : Nat → Int} (hn : n ≤ c) (hc : c ≤ maxLen) (h : Cells W A (n * 2) (Two K M)) (hw : ∀ i, i < n → (Lit.int .i64 (K i)).wf = true ∧ (Lit.int .i64 (M i)).wf = true) :
    Calls Try.prog 10 #[.agg (termsC t), .slice A n c] W fun e w' => e = .returned (.bool true) ∧ Below W.heap.size W w' := by
  unfold maxLen at hc
  clear hw
  unfold termsC
  by_cases ht : Rt.okT t
  · have HT := Lib.hid ht
    clear ht
    by_cases h80 : 80 < n
    · go_enter Try.func10, Try.ntmps10
      go_wp2_with fail
      refine (new_sit HT.out).mono ?_
      rintro e w1 ⟨g, rfl, hs⟩
      go_wp2_with fail
      refine (awake49 _).mono ?_
      rintro e w2 ⟨rfl, hb2⟩
      have HB := Lib.hid (Below.on hs.below hb2)
      clear hs hb2
      go_wp2
      go_ret
      exact ⟨rfl, HB.out⟩
    · go_enter Try.func10, Try.ntmps10
      go_wp2_with fail
      refine (new_sit HT.out).mono ?_
      rintro e w1 ⟨g, rfl, hs⟩
      have HS := Lib.hid hs
      clear hs
      go_wp2_with fail
      go_loopw [7] (fun i wr => ∃ (k : Nat) (x : Rt.St), k ≤ n ∧ i = .int .i64 k ∧ Sit W wr g t x) (fun i _ => n - (intOf i).toNat)
      case atStart => exact ⟨0, Rt.zero, Nat.zero_le _, rfl, HS.out⟩
      case round =>
        clear HS
        obtain ⟨k, x, hk, rfl, hs⟩ := hrel
        have HS := Lib.hid hs
        clear hs
        by_cases hkn : k < n
        · obtain ⟨c0, d0, hV⟩ := set_letters t x
          have HV := Lib.hid hV
          clear hV
          by_cases hy : Rt.err t x (K k) (M k) = 0
          · have HY := Lib.hid hy
            clear hy
            by_cases hneg : K k < 0
            · have HN := Lib.hid (Rt.nxt_open (t := t) (x := x) (a := M k) (.inl hneg))
              have HO := Lib.hid ((out_set (t := t) (x := x) (k := K k) (by omega)).trans HV.out)
              have HX2 := HS.out.okx
              obtain ⟨⟨b0, b1⟩, ⟨b2, b3⟩, ⟨b4, b5⟩⟩ := HS.out.okx
              go_wp2_with fail
              refine (open_any HS.out.obj HT.out HS.out.okx).mono ?_
              rintro e w2 ⟨rfl, hb2⟩
              rw [HV.out]
              have hgz : g < w2.heap.size := (HS.out.keep hb2).obj.lt
              replace HS := Lib.hid ((HS.out.keep hb2).alloc (.cells #[.int .i64 x.s, .int .i64 x.r, .int .i64 x.c, .int .i64 c0, .int .i64 d0] 44))
              have HP := Lib.hid (Blk.new w2 44 #[.int .i64 x.s, .int .i64 x.r, .int .i64 x.c, .int .i64 c0, .int .i64 d0])
              obtain ⟨P, hP⟩ : ∃ P, P = w2.heap.size := ⟨_, rfl⟩
              rw [← hP] at HP hgz
              obtain ⟨b, off, rfl, hlt, hc1, hc2⟩ := (h.below HS.out.below).two hkn
              have HP2 := Lib.hid hP
              have hPg : P ≠ g := by omega
              clear hb2 hP
              go_wp2_with fail
              rw [← HP2.out]
              refine (act_at (x' := x) (y := 0) (V := #[.int .i64 x.s, .int .i64 x.r, .int .i64 x.c, .int .i64 c0, .int .i64 d0]) HS.out.obj HT.out HS.out.okx HN.out HY.out HO.out).mono ?_
              rintro e w3 ⟨rfl, ho3, hb3⟩
              replace HS := Lib.hid ((HS.out.told HX2 ho3 hb3).alloc (.cells #[.int .i64 x.s, .int .i64 x.r, .int .i64 x.c, .int .i64 c0, .int .i64 d0] 44))
              have HQ := Lib.hid (Blk.new w3 44 #[.int .i64 x.s, .int .i64 x.r, .int .i64 x.c, .int .i64 c0, .int .i64 d0])
              have HP3 : Hid (Blk (w3.alloc (.cells #[.int .i64 x.s, .int .i64 x.r, .int .i64 x.c, .int .i64 c0, .int .i64 d0] 44)) P 44 #[.int .i64 x.s, .int .i64 x.r, .int .i64 x.c, .int .i64 c0, .int .i64 d0]) := Lib.hid ((HP.out.grown hb3 (by simp; omega)).alloc _)
              have hPz : P < w3.heap.size := (HP.out.grown hb3 (by simp; omega)).lt
              obtain ⟨Q, hQ⟩ : ∃ Q, Q = w3.heap.size := ⟨_, rfl⟩
              rw [← hQ] at HQ hPz
              have HQ2 := Lib.hid hQ
              clear ho3 hb3 hQ hc1 hc2 hlt HP
              go_wp2_with fail
              rw [← HQ2.out]
              refine (open_any HS.out.obj HT.out HS.out.okx).mono ?_
              rintro e w4 ⟨rfl, hb4⟩
              rw [HV.out]
              replace HS := Lib.hid (HS.out.keep hb4)
              have HP4 := Lib.hid (HP3.out.keep hb4)
              have HQ4 := Lib.hid (HQ.out.keep hb4)
              obtain ⟨b', off', hA2, hlt, hc1, hc2⟩ := (h.below HS.out.below).two hkn
              injection hA2 with hA2
              injection hA2 with hA3 hA4
              subst hA3 hA4
              obtain ⟨j0, j1, j2, j3, j4, _⟩ := set_at HP4.out
              obtain ⟨i0, i1, i2, i3, i4, _⟩ := set_at HQ4.out
              have hPz4 := HP4.out.lt
              have hQz4 := HQ4.out.lt
              clear hb4 HP3 HQ HP4 HQ4
              go_wp2
              go_roundw
              case rel => exact ⟨k + 1, _, by omega, by go_num, HS.out.alloc _⟩
              case measure => simp [intOf]; omega
            · obtain ⟨x', hx'⟩ : ∃ x', Rt.nxt t x (K k) (M k) = x' := ⟨_, rfl⟩
              have hok := Rt.okS_nxt (t := t) (k := K k) (a := M k) HS.out.okx
              rw [hx'] at hok
              obtain ⟨o0, o1, o2, o3, o4, ho⟩ := out_letters t x (K k)
              obtain ⟨c1, d1, hV1⟩ := set_letters t x'
              have HV1 := Lib.hid hV1
              have HO := Lib.hid ho
              have HN := Lib.hid hx'
              have HX2 := hok
              obtain ⟨⟨b0, b1⟩, ⟨b2, b3⟩, ⟨b4, b5⟩⟩ := hok
              clear hV1 ho hx'
              go_wp2_with fail
              refine (open_any HS.out.obj HT.out HS.out.okx).mono ?_
              rintro e w2 ⟨rfl, hb2⟩
              rw [HV.out]
              have hgz : g < w2.heap.size := (HS.out.keep hb2).obj.lt
              replace HS := Lib.hid ((HS.out.keep hb2).alloc (.cells #[.int .i64 x.s, .int .i64 x.r, .int .i64 x.c, .int .i64 c0, .int .i64 d0] 44))
              have HP := Lib.hid (Blk.new w2 44 #[.int .i64 x.s, .int .i64 x.r, .int .i64 x.c, .int .i64 c0, .int .i64 d0])
              obtain ⟨P, hP⟩ : ∃ P, P = w2.heap.size := ⟨_, rfl⟩
              rw [← hP] at HP hgz
              obtain ⟨b, off, rfl, hlt, hc1, hc2⟩ := (h.below HS.out.below).two hkn
              have HP2 := Lib.hid hP
              have hPg : P ≠ g := by omega
              clear hb2 hP
              go_wp2_with fail
              rw [← HP2.out]
              refine (act_at (x' := x') (y := 0) (V := #[.int .i64 o0, .int .i64 o1, .int .i64 o2, .int .i64 o3, .int .i64 o4]) HS.out.obj HT.out HS.out.okx HN.out HY.out HO.out).mono ?_
              rintro e w3 ⟨rfl, ho3, hb3⟩
              replace HS := Lib.hid ((HS.out.told HX2 ho3 hb3).alloc (.cells #[.int .i64 o0, .int .i64 o1, .int .i64 o2, .int .i64 o3, .int .i64 o4] 44))
              have HQ := Lib.hid (Blk.new w3 44 #[.int .i64 o0, .int .i64 o1, .int .i64 o2, .int .i64 o3, .int .i64 o4])
              have HP3 : Hid (Blk (w3.alloc (.cells #[.int .i64 o0, .int .i64 o1, .int .i64 o2, .int .i64 o3, .int .i64 o4] 44)) P 44 #[.int .i64 x.s, .int .i64 x.r, .int .i64 x.c, .int .i64 c0, .int .i64 d0]) := Lib.hid ((HP.out.grown hb3 (by simp; omega)).alloc _)
              have hPz : P < w3.heap.size := (HP.out.grown hb3 (by simp; omega)).lt
              obtain ⟨Q, hQ⟩ : ∃ Q, Q = w3.heap.size := ⟨_, rfl⟩
              rw [← hQ] at HQ hPz
              have HQ2 := Lib.hid hQ
              clear ho3 hb3 hQ hc1 hc2 hlt HP
              go_wp2_with fail
              rw [← HQ2.out]
              refine (open_any HS.out.obj HT.out HS.out.okx).mono ?_
              rintro e w4 ⟨rfl, hb4⟩
              rw [HV1.out]
              replace HS := Lib.hid (HS.out.keep hb4)
              have HP4 := Lib.hid (HP3.out.keep hb4)
              have HQ4 := Lib.hid (HQ.out.keep hb4)
              obtain ⟨b', off', hA2, hlt, hc1, hc2⟩ := (h.below HS.out.below).two hkn
              injection hA2 with hA2
              injection hA2 with hA3 hA4
              subst hA3 hA4
              obtain ⟨j0, j1, j2, j3, j4, _⟩ := set_at HP4.out
              obtain ⟨i0, i1, i2, i3, i4, _⟩ := set_at HQ4.out
              have hPz4 := HP4.out.lt
              have hQz4 := HQ4.out.lt
              clear hb4 HP3 HQ HP4 HQ4
              go_wp2
              go_roundw
              case rel => exact ⟨k + 1, _, by omega, by go_num, HS.out.alloc _⟩
              case measure => simp [intOf]; omega
          · obtain ⟨hn0, hkk⟩ := Rt.err_bad hy
            obtain ⟨y, hyy⟩ : ∃ y, Rt.err t x (K k) (M k) = y := ⟨_, rfl⟩
            rw [hyy] at hy
            have HY := Lib.hid hyy
            have HN := Lib.hid hn0
            have HO := Lib.hid (out_zero (t := t) (x := x) hkk)
            have hneg : 0 ≤ K k := by omega
            have HX2 := HS.out.okx
            obtain ⟨⟨b0, b1⟩, ⟨b2, b3⟩, ⟨b4, b5⟩⟩ := HS.out.okx
            clear hn0 hkk hyy
            go_wp2_with fail
            refine (open_any HS.out.obj HT.out HS.out.okx).mono ?_
            rintro e w2 ⟨rfl, hb2⟩
            rw [HV.out]
            have hgz : g < w2.heap.size := (HS.out.keep hb2).obj.lt
            replace HS := Lib.hid ((HS.out.keep hb2).alloc (.cells #[.int .i64 x.s, .int .i64 x.r, .int .i64 x.c, .int .i64 c0, .int .i64 d0] 44))
            have HP := Lib.hid (Blk.new w2 44 #[.int .i64 x.s, .int .i64 x.r, .int .i64 x.c, .int .i64 c0, .int .i64 d0])
            obtain ⟨P, hP⟩ : ∃ P, P = w2.heap.size := ⟨_, rfl⟩
            rw [← hP] at HP hgz
            obtain ⟨b, off, rfl, hlt, hc1, hc2⟩ := (h.below HS.out.below).two hkn
            have HP2 := Lib.hid hP
            have hPg : P ≠ g := by omega
            clear hb2 hP
            go_wp2_with fail
            rw [← HP2.out]
            refine (act_at (x' := x) (y := y) (V := #[.int .i64 0, .int .i64 0, .int .i64 0, .int .i64 0, .int .i64 0]) HS.out.obj HT.out HS.out.okx HN.out HY.out HO.out).mono ?_
            rintro e w3 ⟨rfl, ho3, hb3⟩
            replace HS := Lib.hid ((HS.out.told HX2 ho3 hb3).alloc (.cells #[.int .i64 0, .int .i64 0, .int .i64 0, .int .i64 0, .int .i64 0] 44))
            have HQ := Lib.hid (Blk.new w3 44 #[.int .i64 0, .int .i64 0, .int .i64 0, .int .i64 0, .int .i64 0])
            have HP3 : Hid (Blk (w3.alloc (.cells #[.int .i64 0, .int .i64 0, .int .i64 0, .int .i64 0, .int .i64 0] 44)) P 44 #[.int .i64 x.s, .int .i64 x.r, .int .i64 x.c, .int .i64 c0, .int .i64 d0]) := Lib.hid ((HP.out.grown hb3 (by simp; omega)).alloc _)
            have hPz : P < w3.heap.size := (HP.out.grown hb3 (by simp; omega)).lt
            obtain ⟨Q, hQ⟩ : ∃ Q, Q = w3.heap.size := ⟨_, rfl⟩
            rw [← hQ] at HQ hPz
            have HQ2 := Lib.hid hQ
            clear ho3 hb3 hQ hc1 hc2 hlt HP
            go_wp2_with fail
            rw [← HQ2.out]
            refine (open_any HS.out.obj HT.out HS.out.okx).mono ?_
            rintro e w4 ⟨rfl, hb4⟩
            rw [HV.out]
            replace HS := Lib.hid (HS.out.keep hb4)
            have HP4 := Lib.hid (HP3.out.keep hb4)
            have HQ4 := Lib.hid (HQ.out.keep hb4)
            obtain ⟨b', off', hA2, hlt, hc1, hc2⟩ := (h.below HS.out.below).two hkn
            injection hA2 with hA2
            injection hA2 with hA3 hA4
            subst hA3 hA4
            obtain ⟨j0, j1, j2, j3, j4, _⟩ := set_at HP4.out
            obtain ⟨i0, i1, i2, i3, i4, _⟩ := set_at HQ4.out
            have hPz4 := HP4.out.lt
            have hQz4 := HQ4.out.lt
            clear hb4 HP3 HQ HP4 HQ4
            go_wp2
            go_roundw
            case rel => exact ⟨k + 1, _, by omega, by go_num, HS.out.alloc _⟩
            case measure => simp [intOf]; omega
        · obtain rfl : k = n := by omega
          go_wp2_with fail
          refine (awake49 _).mono ?_
          rintro e w2 ⟨rfl, hb2⟩
          have HB := Lib.hid (Below.on HS.out.below hb2)
          clear hb2
          go_wp2
          go_ret
          exact ⟨rfl, HB.out⟩
  · have HT := Lib.hid ht
    clear ht
    go_enter Try.func10, Try.ntmps10
    go_wp2_with fail
    refine (new_bad_at HT.out).mono ?_
    rintro e w1 ⟨rfl, hb1⟩
    go_wp2_with fail
    refine (awake49 _).mono ?_
    rintro e w2 ⟨rfl, hb2⟩
    have HB := Lib.hid (Below.on hb1 hb2)
    clear hb1 hb2
    go_wp2
    go_ret
    exact ⟨rfl, HB.out⟩
end Go.Proofs.Ytpalmlcepppifaa
