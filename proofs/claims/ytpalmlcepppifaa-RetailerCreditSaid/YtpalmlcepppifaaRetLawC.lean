/- The walk of the law RetailerCredit. -/
import Derived.Test.YtpalmlcepppifaaRetSit
set_option linter.unusedVariables false
namespace Go.Proofs.Ytpalmlcepppifaa
open Go.RowKit

namespace Rt
theorem credit_kept {t : Tm} {x : St} {a : Int} (h : sErr t x a = 0) (hc : t.credit ≠ 0) : (nxt t x 0 a).s - (nxt t x 0 a).r - (nxt t x 0 a).c ≤ t.credit := by
  have h1 := (sErr_ok h).2
  have hn : nxt t x 0 a = ⟨x.s + a, x.r, x.c⟩ := by unfold nxt; rw [if_pos rfl, if_pos h]
  rw [hn]
  rcases h1 with h1 | h1
  · exact absurd h1 hc
  · simp only; omega
theorem credit_more {t : Tm} {x : St} (hx : okS x) (hc : t.credit ≠ 0) (h0 : 0 ≤ t.credit - (x.s - x.r - x.c)) (h1 : t.credit - (x.s - x.r - x.c) < 1000000000000 - x.s) :
    sErr t x (t.credit - (x.s - x.r - x.c) + 1) = 32 ∧ nxt t x 0 (t.credit - (x.s - x.r - x.c) + 1) = x := by
  unfold okS amt at hx
  have he : sErr t x (t.credit - (x.s - x.r - x.c) + 1) = 32 := sErr_credit (room_yes (by omega) (by omega) (by omega)) hc (by omega)
  refine ⟨he, ?_⟩
  unfold nxt
  rw [if_pos rfl, if_neg (by rw [he]; decide)]
end Rt

set_option maxHeartbeats 2000000 in
set_option maxRecDepth 100000 in
theorem retailerCredit_walk (W : World) {t : Rt.Tm} (_ : t = t) {A : Option Addr} {n c : Nat} {K M : Nat → Int} (hn : n ≤ c) (hc : c ≤ maxLen) (h : Cells W A (n * 2) (Two K M)) (hw : ∀ i, i < n → (Lit.int .i64 (K i)).wf = true ∧ (Lit.int .i64 (M i)).wf = true) :
    Calls Try.prog 9 #[.agg (termsC t), .slice A n c] W fun e w' => e = .returned (.bool true) ∧ Below W.heap.size W w' := by
  unfold maxLen at hc
  clear hw
  unfold termsC
  by_cases ht : Rt.okT t
  · have HT := Lib.hid ht
    by_cases hcr : t.credit = 0
    · clear ht
      have hd : (t.credit == 0) = true := by simp [hcr]
      clear hcr
      go_enter Try.func9, Try.ntmps9
      go_wp2_with fail
      refine (new_sit HT.out).mono ?_
      rintro e w1 ⟨g, rfl, hs⟩
      have q4 := hs.cells.2.2.2.2
      have HS := Lib.hid hs
      clear hs
      go_wp2_with fail
      refine (awake49 _).mono ?_
      rintro e w2 ⟨rfl, hb2⟩
      have HB := Lib.hid (Below.on HS.out.below hb2)
      clear hb2
      go_wp2
      go_ret
      exact ⟨rfl, HB.out⟩
    · have hd : (t.credit == 0) = false := by simp [hcr]
      by_cases h80 : 80 < n
      · clear ht
        go_enter Try.func9, Try.ntmps9
        go_wp2_with fail
        refine (new_sit HT.out).mono ?_
        rintro e w1 ⟨g, rfl, hs⟩
        have q4 := hs.cells.2.2.2.2
        have HS := Lib.hid hs
        clear hs
        go_wp2_with fail
        refine (awake49 _).mono ?_
        rintro e w2 ⟨rfl, hb2⟩
        have HB := Lib.hid (Below.on HS.out.below hb2)
        clear hb2
        go_wp2
        go_ret
        exact ⟨rfl, HB.out⟩
      · obtain ⟨⟨l0, l1⟩, ⟨m0, m1⟩, ⟨n0, n1⟩, ⟨v0, v1⟩, ⟨k0, k1⟩⟩ := ht
        have HCR := Lib.hid hcr
        clear hcr
        go_enter Try.func9, Try.ntmps9
        go_wp2_with fail
        refine (new_sit HT.out).mono ?_
        rintro e w1 ⟨g, rfl, hs⟩
        have q4 := hs.cells.2.2.2.2
        have HS := Lib.hid hs
        clear hs
        go_wp2_with fail
        go_loopw [7] (fun i wr => ∃ (k : Nat) (x : Rt.St), k ≤ n ∧ i = .int .i64 k ∧ Sit W wr g t x) (fun i _ => n - (intOf i).toNat)
        case atStart => exact ⟨0, Rt.zero, Nat.zero_le _, rfl, HS.out⟩
        case round =>
          clear HS q4
          obtain ⟨k, x0, hk, rfl, hs⟩ := hrel
          have HS := Lib.hid hs
          clear hs
          by_cases hkn : k < n
          · obtain ⟨x, hx'⟩ : ∃ x', Rt.nxt t x0 (K k) (M k) = x' := ⟨_, rfl⟩
            have hok := Rt.okS_nxt (t := t) (k := K k) (a := M k) HS.out.okx
            rw [hx'] at hok
            have HOK := Lib.hid hok
            obtain ⟨⟨s0, s1⟩, ⟨r0, r1⟩, ⟨c0, c1⟩⟩ := hok
            obtain ⟨y, hyy⟩ : ∃ y, Rt.err t x0 (K k) (M k) = y := ⟨_, rfl⟩
            obtain ⟨o0, o1, o2, o3, o4, hout⟩ := out_letters t x0 (K k)
            obtain ⟨cc, d, hset⟩ := set_letters t x
            have hcase : (K k = 0 ∧ y = 0 ∧ x.s - x.r - x.c ≤ t.credit) ∨ K k ≠ 0 ∨ (K k = 0 ∧ y ≠ 0) := by
              by_cases e0 : K k = 0
              · by_cases e1 : y = 0
                · refine .inl ⟨e0, e1, ?_⟩
                  rw [← hx', e0]
                  refine Rt.credit_kept ?_ HCR.out
                  rw [← e1, ← hyy, e0]; rfl
                · exact .inr (.inr ⟨e0, e1⟩)
              · exact .inr (.inl e0)
            have HCASE := Lib.hid hcase
            have HMORE := Lib.hid (Rt.credit_more (t := t) HOK.out HCR.out)
            obtain ⟨b, off, rfl, hlt, hc1, hc2⟩ := (h.below HS.out.below).two hkn
            have HN := Lib.hid hx'
            have HY := Lib.hid hyy
            have HO := Lib.hid hout
            have HV := Lib.hid hset
            clear hx' hyy hout hset hcase
            go_wp2_with fail
            refine (act_at HS.out.obj HT.out HS.out.okx HN.out HY.out HO.out).mono ?_
            rintro e w3 ⟨rfl, ho3, hb3⟩
            replace HS := Lib.hid ((HS.out.told HOK.out ho3 hb3).alloc (.cells #[.int .i64 o0, .int .i64 o1, .int .i64 o2, .int .i64 o3, .int .i64 o4] 44))
            clear ho3 hb3 hc1 hc2 hlt
            go_wp2_with fail
            refine (open_at HS.out.obj HT.out HOK.out HV.out).mono ?_
            rintro e w4 ⟨rfl, hb4⟩
            replace HS := Lib.hid (HS.out.keep hb4)
            have q4 := HS.out.cells.2.2.2.2
            have hWz := HS.out.box.lt
            obtain ⟨b', off', hA2, hlt, hc1, hc2⟩ := (h.below HS.out.below).two hkn
            injection hA2 with hA2
            injection hA2 with hA3 hA4
            subst hA3 hA4
            clear hb4
            rcases HCASE.out with ⟨e0, e1, hle⟩ | e0 | ⟨e0, e1⟩
            · have d0 : (K k == 0) = true := by simp [e0]
              have d1 : (y == 0) = true := by simp [e1]
              clear e0 e1
              by_cases f0 : 0 ≤ t.credit - (x.s - x.r - x.c)
              · by_cases f1 : t.credit - (x.s - x.r - x.c) < 1000000000000 - x.s
                · go_wp2_with fail
                  refine (sale_at (HS.out.alloc _).obj HT.out HOK.out (HMORE.out f0 f1).2 (HMORE.out f0 f1).1).mono ?_
                  rintro e w6 ⟨rfl, ho6, hb6⟩
                  replace HS := Lib.hid ((HS.out.alloc _).told HOK.out ho6 hb6)
                  clear ho6 hb6
                  go_wp2
                  go_roundw
                  case rel => exact ⟨k + 1, x, by omega, by go_num, HS.out⟩
                  case measure => simp [intOf]; omega
                · go_wp2
                  go_roundw
                  case rel => exact ⟨k + 1, x, by omega, by go_num, HS.out.alloc _⟩
                  case measure => simp [intOf]; omega
              · exact absurd (show 0 ≤ t.credit - (x.s - x.r - x.c) by omega) f0
            · have d0 : (K k == 0) = false := by simp [e0]
              clear e0
              by_cases f0 : 0 ≤ t.credit - (x.s - x.r - x.c)
              · by_cases f1 : t.credit - (x.s - x.r - x.c) < 1000000000000 - x.s
                · go_wp2_with fail
                  refine (sale_at (HS.out.alloc _).obj HT.out HOK.out (HMORE.out f0 f1).2 (HMORE.out f0 f1).1).mono ?_
                  rintro e w6 ⟨rfl, ho6, hb6⟩
                  replace HS := Lib.hid ((HS.out.alloc _).told HOK.out ho6 hb6)
                  clear ho6 hb6
                  go_wp2
                  go_roundw
                  case rel => exact ⟨k + 1, x, by omega, by go_num, HS.out⟩
                  case measure => simp [intOf]; omega
                · go_wp2
                  go_roundw
                  case rel => exact ⟨k + 1, x, by omega, by go_num, HS.out.alloc _⟩
                  case measure => simp [intOf]; omega
              · go_wp2
                go_roundw
                case rel => exact ⟨k + 1, x, by omega, by go_num, HS.out.alloc _⟩
                case measure => simp [intOf]; omega
            · have d0 : (K k == 0) = true := by simp [e0]
              have d1 : (y == 0) = false := by simp [e1]
              clear e0 e1
              by_cases f0 : 0 ≤ t.credit - (x.s - x.r - x.c)
              · by_cases f1 : t.credit - (x.s - x.r - x.c) < 1000000000000 - x.s
                · go_wp2_with fail
                  refine (sale_at (HS.out.alloc _).obj HT.out HOK.out (HMORE.out f0 f1).2 (HMORE.out f0 f1).1).mono ?_
                  rintro e w6 ⟨rfl, ho6, hb6⟩
                  replace HS := Lib.hid ((HS.out.alloc _).told HOK.out ho6 hb6)
                  clear ho6 hb6
                  go_wp2
                  go_roundw
                  case rel => exact ⟨k + 1, x, by omega, by go_num, HS.out⟩
                  case measure => simp [intOf]; omega
                · go_wp2
                  go_roundw
                  case rel => exact ⟨k + 1, x, by omega, by go_num, HS.out.alloc _⟩
                  case measure => simp [intOf]; omega
              · go_wp2
                go_roundw
                case rel => exact ⟨k + 1, x, by omega, by go_num, HS.out.alloc _⟩
                case measure => simp [intOf]; omega
          · obtain rfl : k = n := by omega
            go_wp2_with fail
            refine (awake49 _).mono ?_
            rintro e w2 ⟨rfl, hb2⟩
            have HB := Lib.hid (Below.on HS.out.below hb2)
            clear hb2
            go_wp2
            go_ret
            exact ⟨rfl, HB.out⟩
  · have HT := Lib.hid ht
    clear ht
    go_enter Try.func9, Try.ntmps9
    go_wp2_with fail
    refine (new_bad_at HT.out).mono ?_
    rintro e w1 ⟨rfl, hb1⟩
    go_wp2_with fail
    refine (awake49 _).mono ?_
    rintro e w2 ⟨rfl, hb2⟩
    have HB := Lib.hid (Below.on hb1 hb2)
    clear hb1 hb2
    go_wp2
    go_ret
    exact ⟨rfl, HB.out⟩
end Go.Proofs.Ytpalmlcepppifaa
