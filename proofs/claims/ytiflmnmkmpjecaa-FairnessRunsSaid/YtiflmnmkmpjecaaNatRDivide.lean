/- The walk of ref.divide: the digits of the quotient bit by bit. -/
import Derived.Test.YtiflmnmkmpjecaaNatRDivP
import Derived.Test.YtiflmnmkmpjecaaG1
import Derived.Test.YtiflmnmkmpjecaaNatLong3
import Derived.Test.YtiflmnmkmpjecaaNatDivMod
set_option linter.unusedVariables false
namespace Go.Proofs.Ytiflmnmkmpjecaa
open Go.RowKit

theorem rr_len {a b m : Nat} (hb : 0 < b) (hm : m = L16 b) (t : Nat) : L16 (rr a b t) ≤ m := by
  rw [hm]; exact Nt.len_mono (by omega) (Nat.le_of_lt (rr_lt hb t))
theorem L16_zero' : L16 0 = 0 := Nt.len_eq (by omega) (by simp) (.inl rfl)
set_option maxHeartbeats 4000000 in
set_option maxRecDepth 100000 in
theorem rdivide_any {D E : Option Addr} {n m c c' a b : Nat} {w : World} (hn : n ≤ 300) (hm : m ≤ 300) (hb : 0 < b) (hna : n = L16 a) (hmb : m = L16 b) (hx : Cells w D n (Dg (d16 a))) (hy : Cells w E m (Dg (d16 b))) :
    Calls Try.prog 103 #[.slice D n c, .slice E m c'] w fun e w' => ∃ Dq cq Dr cr, e = .returned (.tuple #[.slice Dq (L16 (a / b)) cq, .slice Dr (L16 (a % b)) cr]) ∧ L16 (a / b) ≤ cq ∧ L16 (a % b) ≤ cr ∧ Cells w' Dq (L16 (a / b)) (Dg (d16 (a / b))) ∧ Cells w' Dr (L16 (a % b)) (Dg (d16 (a % b))) ∧ Fresh w.heap.size Dq ∧ Fresh w.heap.size Dr ∧ Below w.heap.size w w' := by
  obtain ⟨i0, hi, hz0, hz1, hz2⟩ := info_parts Try.infoI
  have HX := Lib.hid hna
  have HY := Lib.hid hmb
  have HBP := Lib.hid hb
  clear hna hmb hb
  go_enter Try.func103, Try.ntmps103
  go_wp2_with (at_make; refine wpList_make_full _ rfl _ _ 24 rfl w.heap.size 3 i0 (.int .i64 0) 1 Try.underlying24 hi hz0 hz1 _ _ _ _ n rfl rfl ?c1 ?c2 ?c3 ?c4 ?c5 ?_)
  case c1 => first | rfl | omega
  case c2 => first | rfl | omega
  case c3 => rw [hz2]; omega
  case c4 => unfold maxLen; omega
  case c5 => exact Nat.le_refl _
  intro w1 hown hgr
  have HB1 := Lib.hid (show Below w.heap.size w w1 from ⟨hgr.os, hgr.tape, hgr.output, hgr.size, fun k hk => hgr.block k hk (by simp)⟩)
  obtain ⟨hAq, hgb⟩ := Arr.own (made_own (z := .int .i64 0) hown)
  have HQ1 := Lib.hid (hAq.congr (F' := Dg (qi (a / b) n 0)) fun t ht => by unfold Dg qi; rw [if_pos ht]; rfl)
  have hgw : w.heap.size < w1.heap.size := hAq.lt
  have HR0 := Lib.hid (show rr a b (16 * n) = 0 from rr_top (by rw [Nat.pow_mul, HX.out]; exact fit16_len a))
  clear hown hgr hAq
  go_wp2
  go_loopw [7, 8] (fun r i wr => ∃ (k : Nat) (Dr : Option Addr) (cr : Nat), k ≤ n ∧ i = .int .i64 ((k : Int) - 1) ∧ r = .slice Dr (L16 (rr a b (16 * k))) cr ∧ L16 (rr a b (16 * k)) ≤ cr ∧ Hid (Cells wr Dr (L16 (rr a b (16 * k))) (Dg (d16 (rr a b (16 * k))))) ∧ Hid (Fresh (w.heap.size + 1) Dr) ∧ Hid (Arr wr w.heap.size 3 n (Dg (qi (a / b) k 0))) ∧ Hid (Below w.heap.size w wr)) (fun _ i _ => (intOf i + 1).toNat)
  case atStart =>
    refine ⟨n, none, 0, Nat.le_refl _, congrArg _ (by omega), ?_, ?_, ?_, fresh_none, HQ1, HB1⟩
    · rw [HR0.out, L16_zero']
    · rw [HR0.out, L16_zero']; exact Nat.le_refl _
    · rw [HR0.out, L16_zero']; exact Cells.nil
  case round =>
    obtain ⟨k, Dr, cr, hk, rfl, rfl, hlc, HC, HF, HQ, HB⟩ := hrel
    by_cases hk0 : 0 < k
    · obtain ⟨j, rfl⟩ : ∃ j, k = j + 1 := ⟨k - 1, by omega⟩
      have ej : ((j + 1 : Nat) : Int) - 1 = (j : Int) := by omega
      rw [ej]
      clear ej
      go_wp2
      go_loopw [7, 9] (fun r p wr => ∃ (s : Nat) (Dr : Option Addr) (cr pw : Nat), s ≤ 16 ∧ pw ≤ 32768 ∧ (s = 0 ↔ pw = 0) ∧ Hid (0 < s → pw = 2 ^ (s - 1)) ∧ p = .int .i64 (pw : Int) ∧ r = .slice Dr (L16 (rr a b (16 * j + s))) cr ∧ L16 (rr a b (16 * j + s)) ≤ cr ∧ Hid (Cells wr Dr (L16 (rr a b (16 * j + s))) (Dg (d16 (rr a b (16 * j + s))))) ∧ Hid (Fresh (w.heap.size + 1) Dr) ∧ Hid (Arr wr w.heap.size 3 n (Dg (qi (a / b) j s))) ∧ Hid (Below w.heap.size w wr)) (fun _ p _ => (intOf p).toNat)
      case atStart =>
        refine ⟨16, Dr, cr, 32768, Nat.le_refl _, Nat.le_refl _, by omega, Lib.hid fun _ => rfl, rfl, ?_, ?_, ?_, HF, Lib.hid (HQ.out.congr fun t _ => by unfold Dg; rw [qi_start]), HB⟩
        · rw [Nat.mul_succ]
        · rw [Nat.mul_succ] at hlc; exact hlc
        · rw [Nat.mul_succ] at HC; exact HC
      case round =>
        obtain ⟨s, Dr, cr, pw, hs, hpw, hsp, HP, rfl, rfl, hlc, HC, HF, HQ, HB⟩ := hrel
        by_cases hs0 : 0 < s
        · have hpw0 : 0 < pw := by omega
          have hrl := rr_len (a := a) HBP.out HY.out (16 * j + s)
          have hpwi : (0 : Int) < (pw : Int) := by omega
          go_wp2_with fail
          refine (radd_any (x := rr a b (16 * j + s)) (y := rr a b (16 * j + s)) (by omega) (by omega) rfl rfl HC.out HC.out).mono ?_
          rintro e w2 ⟨D2, c2, rfl, hl2, hc2, hf2, hb2⟩
          obtain ⟨R2, hR2⟩ : ∃ R2, R2 = rr a b (16 * j + s) + rr a b (16 * j + s) := ⟨_, rfl⟩
          rw [← hR2] at hl2 hc2 ⊢
          have HB2 := Lib.hid (HB.out.trans (hb2.mono HB.out.size))
          have HC2 := Lib.hid hc2
          have HF2 := Lib.hid (hf2.mono (show w.heap.size + 1 ≤ wr.heap.size from HQ.out.lt))
          have HQ2 := Lib.hid (HQ.out.keep hb2)
          have HE2 := Lib.hid hR2
          clear hb2 hc2 hf2 hR2 HB HC HF HQ
          obtain ⟨b1, o1, rfl, hlt1, hc1⟩ := (hx.below HB2.out).dg (show j < n by omega)
          have hdj := d16_lt a j
          have hj0 : (0 : Int) ≤ (j : Int) := by omega
          have hji : (j : Int) < (n : Int) := by omega
          obtain ⟨dq, hdq⟩ : ∃ dq, dq = d16 a j / pw := ⟨_, rfl⟩
          have hdl : dq ≤ 65535 := by rw [hdq]; exact Nat.le_trans (Nat.div_le_self _ _) (by omega)
          have t2 : ((d16 a j : Nat) : Int) / (pw : Int) = (dq : Int) := by rw [hdq, Int.natCast_ediv]
          have t3 : IntKind.i64.wrap (dq : Int) = (dq : Int) := IntWalk.i64_in _ (by omega)
          have HDQ := Lib.hid hdq
          clear hdq
          have hpn : (pw : Int) ≠ 0 := by omega
          have hst : Hid (∃ s', s = s' + 1 ∧ pw = 2 ^ s') := Lib.hid ⟨s - 1, by omega, HP.out hs0⟩
          obtain ⟨s', es, ep⟩ := hst.out
          have HDB := Lib.hid (div_bit (a := a) HBP.out j s' (by omega))
          have HE3 := Lib.hid (show R2 = 2 * rr a b (16 * j + (s' + 1)) by rw [HE2.out, es]; omega)
          have HDQ2 := Lib.hid (show dq = d16 a j / 2 ^ s' by rw [HDQ.out, ep])
          have HPW := Lib.hid ep
          have HS := Lib.hid es
          clear hst es ep HE2 HDQ
          have hqj : Dg (qi (a / b) j s) j = .int .i64 (qpart (d16 (a / b) j) s : Int) := by unfold Dg qi; rw [if_neg (by omega), if_pos rfl]
          have HQJ := Lib.hid hqj
          have hR2l : L16 R2 ≤ 400 := by
            have h1 : R2 = rr a b (16 * j + s) + rr a b (16 * j + s) := by rw [HE3.out, HS.out]; omega
            have h2 := (c16_top (x := rr a b (16 * j + s)) (y := rr a b (16 * j + s)) (n := 300) (fit16_of (by omega)) (fit16_of (by omega))).2
            rw [← h1] at h2
            have := fit16_le h2
            omega
          have hlen := hR2l
          clear hqj hR2l
          obtain ⟨R3, hR3⟩ : ∃ R3, R3 = R2 + dq % 2 := ⟨_, rfl⟩
          have HB3 := Lib.hid (show (b ≤ R3 → rr a b (16 * j + s') = R3 - b ∧ qpart (d16 (a / b) j) s' = qpart (d16 (a / b) j) s + pw) ∧ (¬ b ≤ R3 → rr a b (16 * j + s') = R3 ∧ qpart (d16 (a / b) j) s' = qpart (d16 (a / b) j) s) by
            obtain ⟨h1, h2⟩ := HDB.out
            rw [← HE3.out, ← HDQ2.out, ← hR3] at h1 h2
            rw [← HS.out, ← HPW.out] at h2
            refine ⟨fun h => ?_, fun h => ?_⟩
            · rw [if_pos h] at h1 h2; exact ⟨h1, h2⟩
            · rw [if_neg h] at h1 h2; exact ⟨h1, h2⟩)
          have hR3l : L16 R3 ≤ 401 := by
            have h2 := (c16_top (x := R2) (y := dq % 2) (n := 400) (fit16_of (by omega)) (fit16_of (Nat.le_trans (Nt.len_le (n := 1) (by omega) (by omega)) (by omega)))).2
            rw [← hR3] at h2
            exact fit16_le h2
          clear HDB HE3 HDQ2
          by_cases hbit : dq % 2 = 1
          · have t4 : (dq : Int).tmod 2 = 1 := by rw [Int.tmod_eq_emod_of_nonneg (by omega)]; omega
            rw [hbit] at hR3
            have HR3 := Lib.hid hR3
            clear hR3 hbit
            have h11 := Lib.hid (show (1 : Nat) = L16 1 from (Nt.len_eq (by omega) (by omega) (.inr (by omega))).symm)
            have HC1 := Lib.hid (show Cells (w2.alloc (.cells #[.int .i64 1] 3)) (some ⟨w2.heap.size, 0, none⟩) 1 (Dg (d16 1)) from Cells.lit rfl fun t ht => by
              obtain rfl : t = 0 := by omega
              rfl)
            go_wp2_with fail
            refine (radd_any (x := R2) (y := 1) (by omega) (by omega) rfl h11.out (HC2.out.alloc _) HC1.out).mono ?_
            rintro e w3 ⟨D3, c3, rfl, hl3, hc3, hf3, hb3⟩
            rw [← HR3.out] at hl3 hc3 ⊢
            have hb3' := Below.on ((Below.refl w2.heap.size w2).alloc (Nat.le_refl _) (.cells #[.int .i64 1] 3)) hb3
            have HB4 := Lib.hid (HB2.out.trans (hb3'.mono HB2.out.size))
            have HC3 := Lib.hid hc3
            have HF3 := Lib.hid (hf3.mono (show w.heap.size + 1 ≤ (w2.alloc (.cells #[.int .i64 1] 3)).heap.size by have := HQ2.out.lt; simp; omega))
            have HQ3 := Lib.hid (HQ2.out.keep hb3')
            clear hb3 hb3' hc3 hf3 HB2 HC2 HF2 HQ2 HC1 HR3 h11 hl2 hc1
            go_wp2_with fail
            refine (rcmp_any (x := R3) (y := b) (by omega) (by omega) rfl HY.out HC3.out (hy.below HB4.out)).mono ?_
            rintro e w4 ⟨rfl, hb4⟩
            have HB5 := Lib.hid (HB4.out.trans (hb4.mono HB4.out.size))
            have HC4 := Lib.hid (HC3.out.below hb4)
            have HQ4 := Lib.hid (HQ3.out.keep hb4)
            clear hb4 HB4 HC3 HQ3
            by_cases hge : b ≤ R3
            · have hcv : 0 ≤ cmpI R3 b := by unfold cmpI; rw [if_neg (by omega)]; split <;> omega
              obtain ⟨cv, hcv2⟩ : ∃ cv, cv = cmpI R3 b := ⟨_, rfl⟩
              rw [← hcv2] at hcv ⊢
              clear hcv2
              obtain ⟨e1, e2⟩ := HB3.out.1 hge
              have E1 := Lib.hid e1
              have E2 := Lib.hid e2
              have HGE := Lib.hid hge
              clear e1 e2 hge HB3
              go_wp2_with fail
              refine (rsub_any (x := R3) (y := b) (by omega) (by omega) rfl HY.out HC4.out (hy.below HB5.out) HGE.out).mono ?_
              rintro e w5 ⟨D5, c5, rfl, hl5, hc5, hf5, hb5⟩
              rw [← E1.out] at hl5 hc5 ⊢
              have HB6 := Lib.hid (HB5.out.trans (hb5.mono HB5.out.size))
              have HC5 := Lib.hid hc5
              have HQ5 := Lib.hid (HQ4.out.keep hb5)
              have HF5 := Lib.hid (hf5.mono (show w.heap.size + 1 ≤ w4.heap.size from HQ4.out.lt))
              clear hb5 hc5 hf5 HB5 HC4 HQ4
              obtain ⟨hcq, hfq⟩ := HQ5.out.at_ (show j < n by omega)
              rw [HQJ.out] at hcq
              have hqb : qpart (d16 (a / b) j) s' ≤ 65535 := by
                have h1 := d16_lt (a / b) j
                have h2 : qpart (d16 (a / b) j) s' ≤ d16 (a / b) j := Nat.div_mul_le_self _ _
                omega
              have hqs : qpart (d16 (a / b) j) s + pw ≤ 65535 := by rw [← E2.out]; exact hqb
              clear hqb
              obtain ⟨qv, hqv⟩ : ∃ qv, qv = qpart (d16 (a / b) j) s := ⟨_, rfl⟩
              rw [← hqv] at hcq hqs
              have HQV := Lib.hid hqv
              clear hqv
              go_wp2
              go_roundw
              case rel =>
                have hp := HQ5.out.put (k := j) (F' := Dg (qi (a / b) j s')) (u := .int .i64 ((qv : Int) + pw)) fun t _ => by
                  unfold Dg
                  rw [qi_put (a / b) j s s' t]
                  by_cases ht : t = j
                  · rw [if_pos ht, if_pos ht, E2.out, ← HQV.out, Int.natCast_add]
                  · rw [if_neg ht, if_neg ht]
                refine ⟨s', D5, c5, pw / 2, by have := HS.out; omega, by omega, ?_, ?_, by go_num, rfl, hl5, ?_, HF5, hp.1, ?_⟩
                · have h1 := HPW.out
                  rcases Nat.eq_zero_or_pos s' with h | h
                  · subst h; rw [h1]; try simp
                  · have : 2 ^ s' = 2 * 2 ^ (s' - 1) := by rw [← Nat.pow_succ']; congr 1; omega
                    have := Nat.pow_pos (n := s' - 1) (show 0 < 2 by omega)
                    omega
                · intro h
                  rw [HPW.out, show s' = (s' - 1) + 1 by omega, Nat.pow_succ, Nat.mul_div_cancel _ (by omega)]; congr 1
                · exact HC5.out.set_ HF5.out (Nat.lt_succ_self _) _ _
                · exact HB6.out.trans ((only_below hp.2 (Nat.le_of_lt HQ5.out.lt)).mono (Nat.le_refl _))
              case measure => simp [intOf]; omega
            · have hcv : cmpI R3 b = -1 := by unfold cmpI; rw [if_pos (by omega)]
              rw [hcv]
              clear hcv
              obtain ⟨e1, e2⟩ := HB3.out.2 hge
              have E1 := Lib.hid e1
              have E2 := Lib.hid e2
              clear e1 e2 hge HB3
              go_wp2
              go_roundw
              case rel =>
                refine ⟨s', D3, c3, pw / 2, by have := HS.out; omega, by omega, ?_, ?_, by go_num, by rw [E1.out], by rw [E1.out]; exact hl3, by rw [E1.out]; exact HC4, HF3, ?_, HB5⟩
                · have h1 := HPW.out
                  rcases Nat.eq_zero_or_pos s' with h | h
                  · subst h; rw [h1]; try simp
                  · have : 2 ^ s' = 2 * 2 ^ (s' - 1) := by rw [← Nat.pow_succ']; congr 1; omega
                    have := Nat.pow_pos (n := s' - 1) (show 0 < 2 by omega)
                    omega
                · intro h
                  rw [HPW.out, show s' = (s' - 1) + 1 by omega, Nat.pow_succ, Nat.mul_div_cancel _ (by omega)]; congr 1
                · refine HQ4.out.congr fun t _ => ?_
                  unfold Dg
                  rw [qi_put (a / b) j s s' t]
                  by_cases ht : t = j
                  · rw [if_pos ht, ht, E2.out]; unfold qi; rw [if_neg (by omega), if_pos rfl]
                  · rw [if_neg ht]
              case measure => simp [intOf]; omega
          · have t4 : (dq : Int).tmod 2 = 0 := by rw [Int.tmod_eq_emod_of_nonneg (by omega)]; omega
            rw [show dq % 2 = 0 by omega, Nat.add_zero] at hR3
            subst hR3
            have hlR := hR3l
            have hl3 := hl2
            have HB4 := HB2
            have HC3 := HC2
            have HF3 := HF2
            have HQ3 := HQ2
            clear HB2 HC2 HF2 HQ2 hbit hl2
            go_wp2_with fail
            refine (rcmp_any (x := R3) (y := b) (by omega) (by omega) rfl HY.out HC3.out (hy.below HB4.out)).mono ?_
            rintro e w4 ⟨rfl, hb4⟩
            have HB5 := Lib.hid (HB4.out.trans (hb4.mono HB4.out.size))
            have HC4 := Lib.hid (HC3.out.below hb4)
            have HQ4 := Lib.hid (HQ3.out.keep hb4)
            clear hb4 HB4 HC3 HQ3
            by_cases hge : b ≤ R3
            · have hcv : 0 ≤ cmpI R3 b := by unfold cmpI; rw [if_neg (by omega)]; split <;> omega
              obtain ⟨cv, hcv2⟩ : ∃ cv, cv = cmpI R3 b := ⟨_, rfl⟩
              rw [← hcv2] at hcv ⊢
              clear hcv2
              obtain ⟨e1, e2⟩ := HB3.out.1 hge
              have E1 := Lib.hid e1
              have E2 := Lib.hid e2
              have HGE := Lib.hid hge
              clear e1 e2 hge HB3
              go_wp2_with fail
              refine (rsub_any (x := R3) (y := b) (by omega) (by omega) rfl HY.out HC4.out (hy.below HB5.out) HGE.out).mono ?_
              rintro e w5 ⟨D5, c5, rfl, hl5, hc5, hf5, hb5⟩
              rw [← E1.out] at hl5 hc5 ⊢
              have HB6 := Lib.hid (HB5.out.trans (hb5.mono HB5.out.size))
              have HC5 := Lib.hid hc5
              have HQ5 := Lib.hid (HQ4.out.keep hb5)
              have HF5 := Lib.hid (hf5.mono (show w.heap.size + 1 ≤ w4.heap.size from HQ4.out.lt))
              clear hb5 hc5 hf5 HB5 HC4 HQ4
              obtain ⟨hcq, hfq⟩ := HQ5.out.at_ (show j < n by omega)
              rw [HQJ.out] at hcq
              have hqb : qpart (d16 (a / b) j) s' ≤ 65535 := by
                have h1 := d16_lt (a / b) j
                have h2 : qpart (d16 (a / b) j) s' ≤ d16 (a / b) j := Nat.div_mul_le_self _ _
                omega
              have hqs : qpart (d16 (a / b) j) s + pw ≤ 65535 := by rw [← E2.out]; exact hqb
              clear hqb
              obtain ⟨qv, hqv⟩ : ∃ qv, qv = qpart (d16 (a / b) j) s := ⟨_, rfl⟩
              rw [← hqv] at hcq hqs
              have HQV := Lib.hid hqv
              clear hqv
              go_wp2
              go_roundw
              case rel =>
                have hp := HQ5.out.put (k := j) (F' := Dg (qi (a / b) j s')) (u := .int .i64 ((qv : Int) + pw)) fun t _ => by
                  unfold Dg
                  rw [qi_put (a / b) j s s' t]
                  by_cases ht : t = j
                  · rw [if_pos ht, if_pos ht, E2.out, ← HQV.out, Int.natCast_add]
                  · rw [if_neg ht, if_neg ht]
                refine ⟨s', D5, c5, pw / 2, by have := HS.out; omega, by omega, ?_, ?_, by go_num, rfl, hl5, ?_, HF5, hp.1, ?_⟩
                · have h1 := HPW.out
                  rcases Nat.eq_zero_or_pos s' with h | h
                  · subst h; rw [h1]; try simp
                  · have : 2 ^ s' = 2 * 2 ^ (s' - 1) := by rw [← Nat.pow_succ']; congr 1; omega
                    have := Nat.pow_pos (n := s' - 1) (show 0 < 2 by omega)
                    omega
                · intro h
                  rw [HPW.out, show s' = (s' - 1) + 1 by omega, Nat.pow_succ, Nat.mul_div_cancel _ (by omega)]; congr 1
                · exact HC5.out.set_ HF5.out (Nat.lt_succ_self _) _ _
                · exact HB6.out.trans ((only_below hp.2 (Nat.le_of_lt HQ5.out.lt)).mono (Nat.le_refl _))
              case measure => simp [intOf]; omega
            · have hcv : cmpI R3 b = -1 := by unfold cmpI; rw [if_pos (by omega)]
              rw [hcv]
              clear hcv
              obtain ⟨e1, e2⟩ := HB3.out.2 hge
              have E1 := Lib.hid e1
              have E2 := Lib.hid e2
              clear e1 e2 hge HB3
              go_wp2
              go_roundw
              case rel =>
                refine ⟨s', D2, c2, pw / 2, by have := HS.out; omega, by omega, ?_, ?_, by go_num, by rw [E1.out], by rw [E1.out]; exact hl3, by rw [E1.out]; exact HC4, HF3, ?_, HB5⟩
                · have h1 := HPW.out
                  rcases Nat.eq_zero_or_pos s' with h | h
                  · subst h; rw [h1]; try simp
                  · have : 2 ^ s' = 2 * 2 ^ (s' - 1) := by rw [← Nat.pow_succ']; congr 1; omega
                    have := Nat.pow_pos (n := s' - 1) (show 0 < 2 by omega)
                    omega
                · intro h
                  rw [HPW.out, show s' = (s' - 1) + 1 by omega, Nat.pow_succ, Nat.mul_div_cancel _ (by omega)]; congr 1
                · refine HQ4.out.congr fun t _ => ?_
                  unfold Dg
                  rw [qi_put (a / b) j s s' t]
                  by_cases ht : t = j
                  · rw [if_pos ht, ht, E2.out]; unfold qi; rw [if_neg (by omega), if_pos rfl]
                  · rw [if_neg ht]
              case measure => simp [intOf]; omega
        · obtain rfl : s = 0 := by omega
          have hpw0 : pw = 0 := by omega
          subst hpw0
          clear hs0 HP hsp
          go_wp2
          go_roundw
          case rel => exact ⟨j, Dr, cr, by omega, by go_num, rfl, hlc, HC, HF, HQ, HB⟩
          case measure => simp [intOf]
    · obtain rfl : k = 0 := by omega
      clear hk0
      have hrz : rr a b (16 * 0) = a % b := rr_end a b
      rw [hrz] at hlc HC ⊢
      have HQC := Lib.hid ((HQ.out.cells (o := 0) (n := n) (by omega)).congr (G := Dg (d16 (a / b))) fun t _ => by unfold Dg; rw [Nat.zero_add, qi_end])
      have HQF := Lib.hid (show Fit16 (a / b) n from fit16_of (by rw [HX.out]; exact Nt.len_mono (by omega) (Nat.div_le_self a b)))
      have HQL := Lib.hid (fit16_le HQF.out)
      clear hrz
      go_wp2_with fail
      refine (rtrim_any (N := a / b) (by omega) (Nat.le_refl _) HQF.out HQC.out).mono ?_
      rintro e w5 ⟨rfl, rfl⟩
      go_wp2
      go_ret2
      exact ⟨_, _, _, _, rfl, HQL.out, hlc, HQC.out.sub HQL.out, HC.out, Fresh.at_ (Nat.le_refl _), HF.out.mono (by omega), HB.out⟩
end Go.Proofs.Ytiflmnmkmpjecaa
