/- Several texts in one. -/
import Derived.Test.YtiflmnmkmpjecaaG1
import Derived.Test.YtiflmnmkmpjecaaNatLong3
import Derived.Test.YtiflmnmkmpjecaaNatDivMod
import Derived.Test.YtiflmnmkmpjecaaNatRSum
/- Plain facts of the reference's division bit by bit. -/
set_option linter.unusedVariables false
namespace Go.Proofs.Ytiflmnmkmpjecaa
open Go.RowKit

/-- the remainder behind the bits from t on -/
def rr (a b t : Nat) : Nat := a / 2 ^ t % b
theorem rr_lt {a b : Nat} (hb : 0 < b) (t : Nat) : rr a b t < b := Nat.mod_lt _ hb
theorem half_step (a t : Nat) : a / 2 ^ t = 2 * (a / 2 ^ (t + 1)) + a / 2 ^ t % 2 := by
  rw [Nat.pow_succ, ← Nat.div_div_eq_div_mul]
  omega
theorem rr_step {a b : Nat} (hb : 0 < b) (t : Nat) : rr a b t = if b ≤ 2 * rr a b (t + 1) + a / 2 ^ t % 2 then 2 * rr a b (t + 1) + a / 2 ^ t % 2 - b else 2 * rr a b (t + 1) + a / 2 ^ t % 2 := by
  have h := half_step a t
  have hl := rr_lt (a := a) hb (t + 1)
  unfold rr at *
  obtain ⟨A, hA⟩ : ∃ A, A = a / 2 ^ (t + 1) := ⟨_, rfl⟩
  obtain ⟨d, hd⟩ : ∃ d, d = a / 2 ^ t % 2 := ⟨_, rfl⟩
  have hd2 : d < 2 := by rw [hd]; exact Nat.mod_lt _ (by omega)
  rw [← hA] at hl ⊢
  rw [← hd]
  rw [← hA, ← hd] at h
  rw [h]
  have hm := Nat.div_add_mod A b
  have e : 2 * A + d = (2 * (A % b) + d) + b * (2 * (A / b)) := by
    have : b * (2 * (A / b)) = 2 * (b * (A / b)) := by rw [Nat.mul_left_comm]
    omega
  rw [e, Nat.add_mul_mod_self_left]
  split
  · rename_i h1
    rw [Nat.mod_eq_sub_mod h1, Nat.mod_eq_of_lt (by omega)]
  · rename_i h1
    exact Nat.mod_eq_of_lt (by omega)
theorem quo_step {a b : Nat} (hb : 0 < b) (t : Nat) : a / b / 2 ^ t % 2 = if b ≤ 2 * rr a b (t + 1) + a / 2 ^ t % 2 then 1 else 0 := by
  have h := half_step a t
  have hl := rr_lt (a := a) hb (t + 1)
  unfold rr at *
  obtain ⟨A, hA⟩ : ∃ A, A = a / 2 ^ (t + 1) := ⟨_, rfl⟩
  obtain ⟨d, hd⟩ : ∃ d, d = a / 2 ^ t % 2 := ⟨_, rfl⟩
  have hd2 : d < 2 := by rw [hd]; exact Nat.mod_lt _ (by omega)
  rw [← hA] at hl ⊢
  rw [← hd]
  rw [← hA, ← hd] at h
  rw [Nat.div_div_eq_div_mul, Nat.mul_comm b, ← Nat.div_div_eq_div_mul, h]
  have hm := Nat.div_add_mod A b
  have e : 2 * A + d = (2 * (A % b) + d) + b * (2 * (A / b)) := by
    have : b * (2 * (A / b)) = 2 * (b * (A / b)) := by rw [Nat.mul_left_comm]
    omega
  rw [e, Nat.add_mul_div_left _ _ hb]
  split
  · rename_i h1
    have : (2 * (A % b) + d) / b = 1 := by
      rw [Nat.div_eq_sub_div hb h1, Nat.div_eq_of_lt (by omega)]
    omega
  · rename_i h1
    rw [Nat.div_eq_of_lt (by omega)]
    omega
/-- the part of a quotient's digit that is known behind the bits from s on -/
def qpart (d s : Nat) : Nat := d / 2 ^ s * 2 ^ s
theorem qpart_top {d : Nat} (h : d < 65536) : qpart d 16 = 0 := by
  unfold qpart
  rw [Nat.div_eq_of_lt (by simpa using h), Nat.zero_mul]
theorem qpart_end (d : Nat) : qpart d 0 = d := by unfold qpart; simp
theorem qpart_step (d s : Nat) : qpart d s = qpart d (s + 1) + d / 2 ^ s % 2 * 2 ^ s := by
  unfold qpart
  have h := half_step d s
  conv => lhs; rw [h]
  rw [Nat.add_mul, Nat.pow_succ]
  congr 1
  rw [Nat.mul_comm 2, Nat.mul_assoc, Nat.mul_comm 2]
theorem bit_digit (a i s : Nat) (hs : s < 16) : a / 2 ^ (16 * i + s) % 2 = d16 a i / 2 ^ s % 2 := by
  have hp : (2 : Nat) ^ (16 * i) = 65536 ^ i := by rw [Nat.pow_mul]
  have he : (65536 : Nat) = 2 ^ s * (2 * 2 ^ (15 - s)) := by
    rw [← Nat.pow_succ', ← Nat.pow_add, show s + (15 - s).succ = 16 by omega]
  show a / 2 ^ (16 * i + s) % 2 = a / 65536 ^ i % 65536 / 2 ^ s % 2
  rw [Nat.pow_add, hp, ← Nat.div_div_eq_div_mul]
  generalize a / 65536 ^ i = T
  have hm := Nat.div_add_mod T 65536
  generalize T % 65536 = u at *
  generalize T / 65536 = K at *
  have e : T = u + 2 ^ s * (2 * (2 ^ (15 - s) * K)) := by
    rw [← hm, he]
    rw [Nat.mul_assoc, Nat.mul_assoc, Nat.add_comm]
  rw [e, Nat.add_mul_div_left _ _ (Nat.pow_pos (by omega)), Nat.add_mul_mod_self_left]
theorem rr_top {a b t : Nat} (h : a < 2 ^ t) : rr a b t = 0 := by unfold rr; rw [Nat.div_eq_of_lt h, Nat.zero_mod]
theorem rr_end (a b : Nat) : rr a b 0 = a % b := by unfold rr; rw [Nat.pow_zero, Nat.div_one]
/-- one bit: the remainder and the quotient's digit -/
theorem div_bit {a b : Nat} (hb : 0 < b) (i s : Nat) (hs : s < 16) :
    rr a b (16 * i + s) = (if b ≤ 2 * rr a b (16 * i + (s + 1)) + d16 a i / 2 ^ s % 2 then 2 * rr a b (16 * i + (s + 1)) + d16 a i / 2 ^ s % 2 - b else 2 * rr a b (16 * i + (s + 1)) + d16 a i / 2 ^ s % 2) ∧
    qpart (d16 (a / b) i) s = qpart (d16 (a / b) i) (s + 1) + if b ≤ 2 * rr a b (16 * i + (s + 1)) + d16 a i / 2 ^ s % 2 then 2 ^ s else 0 := by
  have h1 := rr_step (a := a) hb (16 * i + s)
  have h2 := quo_step (a := a) hb (16 * i + s)
  rw [bit_digit a i s hs] at h1
  rw [bit_digit a i s hs, bit_digit (a / b) i s hs] at h2
  refine ⟨h1, ?_⟩
  rw [qpart_step, h2]
  congr 1
  split <;> rename_i h
  · rw [if_pos (by exact h), Nat.one_mul]
  · rw [if_neg (by exact h), Nat.zero_mul]
/-- the quotient's digits behind digit j's bits from s on -/
def qi (Q j s t : Nat) : Nat := if t < j then 0 else if t = j then qpart (d16 Q j) s else d16 Q t
theorem qi_start (Q j t : Nat) : qi Q (j + 1) 0 t = qi Q j 16 t := by
  unfold qi
  by_cases h : t < j
  · rw [if_pos h, if_pos (by omega)]
  · by_cases e : t = j
    · subst e; rw [if_pos (by omega), if_neg h, if_pos rfl, qpart_top (d16_lt _ _)]
    · rw [if_neg (show ¬ t < j + 1 by omega), if_neg h, if_neg e]
      by_cases e2 : t = j + 1
      · subst e2; rw [if_pos rfl, qpart_end]
      · rw [if_neg e2]
theorem qi_put (Q j s s2 t : Nat) : qi Q j s2 t = if t = j then qpart (d16 Q j) s2 else qi Q j s t := by
  unfold qi
  by_cases e : t = j
  · subst e; rw [if_neg (by omega), if_pos rfl, if_pos rfl]
  · rw [if_neg e, if_neg e, if_neg e]
theorem qi_end (Q t : Nat) : qi Q 0 0 t = d16 Q t := by
  unfold qi
  rw [if_neg (by omega)]
  by_cases e : t = 0
  · subst e; rw [if_pos rfl, qpart_end]
  · rw [if_neg e]
end Go.Proofs.Ytiflmnmkmpjecaa

/- The walk of ref.divide: the digits of the quotient bit by bit. -/
set_option linter.unusedVariables false
namespace Go.Proofs.Ytiflmnmkmpjecaa
open Go.RowKit

theorem rr_len {a b m : Nat} (hb : 0 < b) (hm : m = L16 b) (t : Nat) : L16 (rr a b t) ≤ m := by
  rw [hm]; exact Nt.len_mono (by omega) (Nat.le_of_lt (rr_lt hb t))
theorem L16_zero' : L16 0 = 0 := Nt.len_eq (by omega) (by simp) (.inl rfl)
set_option maxHeartbeats 4000000 in
set_option maxRecDepth 100000 in
theorem rdivide_any {D E : Option Addr} {n m c c' a b : Nat} {w : World} (hn : n ≤ 300) (hm : m ≤ 300) (hb : 0 < b) (hna : n = L16 a) (hmb : m = L16 b) (hx : Cells w D n (Dg (d16 a))) (hy : Cells w E m (Dg (d16 b))) :
    Calls Try.prog 103 #[.slice D n c, .slice E m c'] w fun e w' => ∃ Dq cq Dr cr, e = .returned (.tuple #[.slice Dq (L16 (a / b)) cq, .slice Dr (L16 (a % b)) cr]) ∧ L16 (a / b) ≤ cq ∧ L16 (a % b) ≤ cr ∧ Cells w' Dq (L16 (a / b)) (Dg (d16 (a / b))) ∧ Cells w' Dr (L16 (a % b)) (Dg (d16 (a % b))) ∧ Fresh w.heap.size Dq ∧ Fresh w.heap.size Dr ∧ Below w.heap.size w w' := by
  obtain ⟨i0, hi, hz0, hz1, hz2⟩ := info_parts Try.infoI
  have HX := Lib.hid hna
  have HY := Lib.hid hmb
  have HBP := Lib.hid hb
  clear hna hmb hb
  go_enter Try.func103, Try.ntmps103
  go_wp2_with (at_make; refine wpList_make_full _ rfl _ _ 24 rfl w.heap.size 3 i0 (.int .i64 0) 1 Try.underlying24 hi hz0 hz1 _ _ _ _ n rfl rfl ?c1 ?c2 ?c3 ?c4 ?c5 ?_)
  case c1 => first | rfl | omega
  case c2 => first | rfl | omega
  case c3 => rw [hz2]; omega
  case c4 => unfold maxLen; omega
  case c5 => exact Nat.le_refl _
  intro w1 hown hgr
  have HB1 := Lib.hid (show Below w.heap.size w w1 from ⟨hgr.os, hgr.tape, hgr.output, hgr.size, fun k hk => hgr.block k hk (by simp)⟩)
  obtain ⟨hAq, hgb⟩ := Arr.own (made_own (z := .int .i64 0) hown)
  have HQ1 := Lib.hid (hAq.congr (F' := Dg (qi (a / b) n 0)) fun t ht => by unfold Dg qi; rw [if_pos ht]; rfl)
  have hgw : w.heap.size < w1.heap.size := hAq.lt
  have HR0 := Lib.hid (show rr a b (16 * n) = 0 from rr_top (by rw [Nat.pow_mul, HX.out]; exact fit16_len a))
  clear hown hgr hAq
  go_wp2
  go_loopw [7, 8] (fun r i wr => ∃ (k : Nat) (Dr : Option Addr) (cr : Nat), k ≤ n ∧ i = .int .i64 ((k : Int) - 1) ∧ r = .slice Dr (L16 (rr a b (16 * k))) cr ∧ L16 (rr a b (16 * k)) ≤ cr ∧ Hid (Cells wr Dr (L16 (rr a b (16 * k))) (Dg (d16 (rr a b (16 * k))))) ∧ Hid (Fresh (w.heap.size + 1) Dr) ∧ Hid (Arr wr w.heap.size 3 n (Dg (qi (a / b) k 0))) ∧ Hid (Below w.heap.size w wr)) (fun _ i _ => (intOf i + 1).toNat)
  case atStart =>
    refine ⟨n, none, 0, Nat.le_refl _, congrArg _ (by omega), ?_, ?_, ?_, fresh_none, HQ1, HB1⟩
    · rw [HR0.out, L16_zero']
    · rw [HR0.out, L16_zero']; exact Nat.le_refl _
    · rw [HR0.out, L16_zero']; exact Cells.nil
  case round =>
    obtain ⟨k, Dr, cr, hk, rfl, rfl, hlc, HC, HF, HQ, HB⟩ := hrel
    by_cases hk0 : 0 < k
    · obtain ⟨j, rfl⟩ : ∃ j, k = j + 1 := ⟨k - 1, by omega⟩
      have ej : ((j + 1 : Nat) : Int) - 1 = (j : Int) := by omega
      rw [ej]
      clear ej
      go_wp2
      go_loopw [7, 9] (fun r p wr => ∃ (s : Nat) (Dr : Option Addr) (cr pw : Nat), s ≤ 16 ∧ pw ≤ 32768 ∧ (s = 0 ↔ pw = 0) ∧ Hid (0 < s → pw = 2 ^ (s - 1)) ∧ p = .int .i64 (pw : Int) ∧ r = .slice Dr (L16 (rr a b (16 * j + s))) cr ∧ L16 (rr a b (16 * j + s)) ≤ cr ∧ Hid (Cells wr Dr (L16 (rr a b (16 * j + s))) (Dg (d16 (rr a b (16 * j + s))))) ∧ Hid (Fresh (w.heap.size + 1) Dr) ∧ Hid (Arr wr w.heap.size 3 n (Dg (qi (a / b) j s))) ∧ Hid (Below w.heap.size w wr)) (fun _ p _ => (intOf p).toNat)
      case atStart =>
        refine ⟨16, Dr, cr, 32768, Nat.le_refl _, Nat.le_refl _, by omega, Lib.hid fun _ => rfl, rfl, ?_, ?_, ?_, HF, Lib.hid (HQ.out.congr fun t _ => by unfold Dg; rw [qi_start]), HB⟩
        · rw [Nat.mul_succ]
        · rw [Nat.mul_succ] at hlc; exact hlc
        · rw [Nat.mul_succ] at HC; exact HC
      case round =>
        obtain ⟨s, Dr, cr, pw, hs, hpw, hsp, HP, rfl, rfl, hlc, HC, HF, HQ, HB⟩ := hrel
        by_cases hs0 : 0 < s
        · have hpw0 : 0 < pw := by omega
          have hrl := rr_len (a := a) HBP.out HY.out (16 * j + s)
          have hpwi : (0 : Int) < (pw : Int) := by omega
          go_wp2_with fail
          refine (radd_any (x := rr a b (16 * j + s)) (y := rr a b (16 * j + s)) (by omega) (by omega) rfl rfl HC.out HC.out).mono ?_
          rintro e w2 ⟨D2, c2, rfl, hl2, hc2, hf2, hb2⟩
          obtain ⟨R2, hR2⟩ : ∃ R2, R2 = rr a b (16 * j + s) + rr a b (16 * j + s) := ⟨_, rfl⟩
          rw [← hR2] at hl2 hc2 ⊢
          have HB2 := Lib.hid (HB.out.trans (hb2.mono HB.out.size))
          have HC2 := Lib.hid hc2
          have HF2 := Lib.hid (hf2.mono (show w.heap.size + 1 ≤ wr.heap.size from HQ.out.lt))
          have HQ2 := Lib.hid (HQ.out.keep hb2)
          have HE2 := Lib.hid hR2
          clear hb2 hc2 hf2 hR2 HB HC HF HQ
          obtain ⟨b1, o1, rfl, hlt1, hc1⟩ := (hx.below HB2.out).dg (show j < n by omega)
          have hdj := d16_lt a j
          have hj0 : (0 : Int) ≤ (j : Int) := by omega
          have hji : (j : Int) < (n : Int) := by omega
          obtain ⟨dq, hdq⟩ : ∃ dq, dq = d16 a j / pw := ⟨_, rfl⟩
          have hdl : dq ≤ 65535 := by rw [hdq]; exact Nat.le_trans (Nat.div_le_self _ _) (by omega)
          have t2 : ((d16 a j : Nat) : Int) / (pw : Int) = (dq : Int) := by rw [hdq, Int.natCast_ediv]
          have t3 : IntKind.i64.wrap (dq : Int) = (dq : Int) := IntWalk.i64_in _ (by omega)
          have HDQ := Lib.hid hdq
          clear hdq
          have hpn : (pw : Int) ≠ 0 := by omega
          have hst : Hid (∃ s', s = s' + 1 ∧ pw = 2 ^ s') := Lib.hid ⟨s - 1, by omega, HP.out hs0⟩
          obtain ⟨s', es, ep⟩ := hst.out
          have HDB := Lib.hid (div_bit (a := a) HBP.out j s' (by omega))
          have HE3 := Lib.hid (show R2 = 2 * rr a b (16 * j + (s' + 1)) by rw [HE2.out, es]; omega)
          have HDQ2 := Lib.hid (show dq = d16 a j / 2 ^ s' by rw [HDQ.out, ep])
          have HPW := Lib.hid ep
          have HS := Lib.hid es
          clear hst es ep HE2 HDQ
          have hqj : Dg (qi (a / b) j s) j = .int .i64 (qpart (d16 (a / b) j) s : Int) := by unfold Dg qi; rw [if_neg (by omega), if_pos rfl]
          have HQJ := Lib.hid hqj
          have hR2l : L16 R2 ≤ 400 := by
            have h1 : R2 = rr a b (16 * j + s) + rr a b (16 * j + s) := by rw [HE3.out, HS.out]; omega
            have h2 := (c16_top (x := rr a b (16 * j + s)) (y := rr a b (16 * j + s)) (n := 300) (fit16_of (by omega)) (fit16_of (by omega))).2
            rw [← h1] at h2
            have := fit16_le h2
            omega
          have hlen := hR2l
          clear hqj hR2l
          obtain ⟨R3, hR3⟩ : ∃ R3, R3 = R2 + dq % 2 := ⟨_, rfl⟩
          have HB3 := Lib.hid (show (b ≤ R3 → rr a b (16 * j + s') = R3 - b ∧ qpart (d16 (a / b) j) s' = qpart (d16 (a / b) j) s + pw) ∧ (¬ b ≤ R3 → rr a b (16 * j + s') = R3 ∧ qpart (d16 (a / b) j) s' = qpart (d16 (a / b) j) s) by
            obtain ⟨h1, h2⟩ := HDB.out
            rw [← HE3.out, ← HDQ2.out, ← hR3] at h1 h2
            rw [← HS.out, ← HPW.out] at h2
            refine ⟨fun h => ?_, fun h => ?_⟩
            · rw [if_pos h] at h1 h2; exact ⟨h1, h2⟩
            · rw [if_neg h] at h1 h2; exact ⟨h1, h2⟩)
          have hR3l : L16 R3 ≤ 401 := by
            have h2 := (c16_top (x := R2) (y := dq % 2) (n := 400) (fit16_of (by omega)) (fit16_of (Nat.le_trans (Nt.len_le (n := 1) (by omega) (by omega)) (by omega)))).2
            rw [← hR3] at h2
            exact fit16_le h2
          clear HDB HE3 HDQ2
          by_cases hbit : dq % 2 = 1
          · have t4 : (dq : Int).tmod 2 = 1 := by rw [Int.tmod_eq_emod_of_nonneg (by omega)]; omega
            rw [hbit] at hR3
            have HR3 := Lib.hid hR3
            clear hR3 hbit
            have h11 := Lib.hid (show (1 : Nat) = L16 1 from (Nt.len_eq (by omega) (by omega) (.inr (by omega))).symm)
            have HC1 := Lib.hid (show Cells (w2.alloc (.cells #[.int .i64 1] 3)) (some ⟨w2.heap.size, 0, none⟩) 1 (Dg (d16 1)) from Cells.lit rfl fun t ht => by
              obtain rfl : t = 0 := by omega
              rfl)
            go_wp2_with fail
            refine (radd_any (x := R2) (y := 1) (by omega) (by omega) rfl h11.out (HC2.out.alloc _) HC1.out).mono ?_
            rintro e w3 ⟨D3, c3, rfl, hl3, hc3, hf3, hb3⟩
            rw [← HR3.out] at hl3 hc3 ⊢
            have hb3' := Below.on ((Below.refl w2.heap.size w2).alloc (Nat.le_refl _) (.cells #[.int .i64 1] 3)) hb3
            have HB4 := Lib.hid (HB2.out.trans (hb3'.mono HB2.out.size))
            have HC3 := Lib.hid hc3
            have HF3 := Lib.hid (hf3.mono (show w.heap.size + 1 ≤ (w2.alloc (.cells #[.int .i64 1] 3)).heap.size by have := HQ2.out.lt; simp; omega))
            have HQ3 := Lib.hid (HQ2.out.keep hb3')
            clear hb3 hb3' hc3 hf3 HB2 HC2 HF2 HQ2 HC1 HR3 h11 hl2 hc1
            go_wp2_with fail
            refine (rcmp_any (x := R3) (y := b) (by omega) (by omega) rfl HY.out HC3.out (hy.below HB4.out)).mono ?_
            rintro e w4 ⟨rfl, hb4⟩
            have HB5 := Lib.hid (HB4.out.trans (hb4.mono HB4.out.size))
            have HC4 := Lib.hid (HC3.out.below hb4)
            have HQ4 := Lib.hid (HQ3.out.keep hb4)
            clear hb4 HB4 HC3 HQ3
            by_cases hge : b ≤ R3
            · have hcv : 0 ≤ cmpI R3 b := by unfold cmpI; rw [if_neg (by omega)]; split <;> omega
              obtain ⟨cv, hcv2⟩ : ∃ cv, cv = cmpI R3 b := ⟨_, rfl⟩
              rw [← hcv2] at hcv ⊢
              clear hcv2
              obtain ⟨e1, e2⟩ := HB3.out.1 hge
              have E1 := Lib.hid e1
              have E2 := Lib.hid e2
              have HGE := Lib.hid hge
              clear e1 e2 hge HB3
              go_wp2_with fail
              refine (rsub_any (x := R3) (y := b) (by omega) (by omega) rfl HY.out HC4.out (hy.below HB5.out) HGE.out).mono ?_
              rintro e w5 ⟨D5, c5, rfl, hl5, hc5, hf5, hb5⟩
              rw [← E1.out] at hl5 hc5 ⊢
              have HB6 := Lib.hid (HB5.out.trans (hb5.mono HB5.out.size))
              have HC5 := Lib.hid hc5
              have HQ5 := Lib.hid (HQ4.out.keep hb5)
              have HF5 := Lib.hid (hf5.mono (show w.heap.size + 1 ≤ w4.heap.size from HQ4.out.lt))
              clear hb5 hc5 hf5 HB5 HC4 HQ4
              obtain ⟨hcq, hfq⟩ := HQ5.out.at_ (show j < n by omega)
              rw [HQJ.out] at hcq
              have hqb : qpart (d16 (a / b) j) s' ≤ 65535 := by
                have h1 := d16_lt (a / b) j
                have h2 : qpart (d16 (a / b) j) s' ≤ d16 (a / b) j := Nat.div_mul_le_self _ _
                omega
              have hqs : qpart (d16 (a / b) j) s + pw ≤ 65535 := by rw [← E2.out]; exact hqb
              clear hqb
              obtain ⟨qv, hqv⟩ : ∃ qv, qv = qpart (d16 (a / b) j) s := ⟨_, rfl⟩
              rw [← hqv] at hcq hqs
              have HQV := Lib.hid hqv
              clear hqv
              go_wp2
              go_roundw
              case rel =>
                have hp := HQ5.out.put (k := j) (F' := Dg (qi (a / b) j s')) (u := .int .i64 ((qv : Int) + pw)) fun t _ => by
                  unfold Dg
                  rw [qi_put (a / b) j s s' t]
                  by_cases ht : t = j
                  · rw [if_pos ht, if_pos ht, E2.out, ← HQV.out, Int.natCast_add]
                  · rw [if_neg ht, if_neg ht]
                refine ⟨s', D5, c5, pw / 2, by have := HS.out; omega, by omega, ?_, ?_, by go_num, rfl, hl5, ?_, HF5, hp.1, ?_⟩
                · have h1 := HPW.out
                  rcases Nat.eq_zero_or_pos s' with h | h
                  · subst h; rw [h1]; try simp
                  · have : 2 ^ s' = 2 * 2 ^ (s' - 1) := by rw [← Nat.pow_succ']; congr 1; omega
                    have := Nat.pow_pos (n := s' - 1) (show 0 < 2 by omega)
                    omega
                · intro h
                  rw [HPW.out, show s' = (s' - 1) + 1 by omega, Nat.pow_succ, Nat.mul_div_cancel _ (by omega)]; congr 1
                · exact HC5.out.set_ HF5.out (Nat.lt_succ_self _) _ _
                · exact HB6.out.trans ((only_below hp.2 (Nat.le_of_lt HQ5.out.lt)).mono (Nat.le_refl _))
              case measure => simp [intOf]; omega
            · have hcv : cmpI R3 b = -1 := by unfold cmpI; rw [if_pos (by omega)]
              rw [hcv]
              clear hcv
              obtain ⟨e1, e2⟩ := HB3.out.2 hge
              have E1 := Lib.hid e1
              have E2 := Lib.hid e2
              clear e1 e2 hge HB3
              go_wp2
              go_roundw
              case rel =>
                refine ⟨s', D3, c3, pw / 2, by have := HS.out; omega, by omega, ?_, ?_, by go_num, by rw [E1.out], by rw [E1.out]; exact hl3, by rw [E1.out]; exact HC4, HF3, ?_, HB5⟩
                · have h1 := HPW.out
                  rcases Nat.eq_zero_or_pos s' with h | h
                  · subst h; rw [h1]; try simp
                  · have : 2 ^ s' = 2 * 2 ^ (s' - 1) := by rw [← Nat.pow_succ']; congr 1; omega
                    have := Nat.pow_pos (n := s' - 1) (show 0 < 2 by omega)
                    omega
                · intro h
                  rw [HPW.out, show s' = (s' - 1) + 1 by omega, Nat.pow_succ, Nat.mul_div_cancel _ (by omega)]; congr 1
                · refine HQ4.out.congr fun t _ => ?_
                  unfold Dg
                  rw [qi_put (a / b) j s s' t]
                  by_cases ht : t = j
                  · rw [if_pos ht, ht, E2.out]; unfold qi; rw [if_neg (by omega), if_pos rfl]
                  · rw [if_neg ht]
              case measure => simp [intOf]; omega
          · have t4 : (dq : Int).tmod 2 = 0 := by rw [Int.tmod_eq_emod_of_nonneg (by omega)]; omega
            rw [show dq % 2 = 0 by omega, Nat.add_zero] at hR3
            subst hR3
            have hlR := hR3l
            have hl3 := hl2
            have HB4 := HB2
            have HC3 := HC2
            have HF3 := HF2
            have HQ3 := HQ2
            clear HB2 HC2 HF2 HQ2 hbit hl2
            go_wp2_with fail
            refine (rcmp_any (x := R3) (y := b) (by omega) (by omega) rfl HY.out HC3.out (hy.below HB4.out)).mono ?_
            rintro e w4 ⟨rfl, hb4⟩
            have HB5 := Lib.hid (HB4.out.trans (hb4.mono HB4.out.size))
            have HC4 := Lib.hid (HC3.out.below hb4)
            have HQ4 := Lib.hid (HQ3.out.keep hb4)
            clear hb4 HB4 HC3 HQ3
            by_cases hge : b ≤ R3
            · have hcv : 0 ≤ cmpI R3 b := by unfold cmpI; rw [if_neg (by omega)]; split <;> omega
              obtain ⟨cv, hcv2⟩ : ∃ cv, cv = cmpI R3 b := ⟨_, rfl⟩
              rw [← hcv2] at hcv ⊢
              clear hcv2
              obtain ⟨e1, e2⟩ := HB3.out.1 hge
              have E1 := Lib.hid e1
              have E2 := Lib.hid e2
              have HGE := Lib.hid hge
              clear e1 e2 hge HB3
              go_wp2_with fail
              refine (rsub_any (x := R3) (y := b) (by omega) (by omega) rfl HY.out HC4.out (hy.below HB5.out) HGE.out).mono ?_
              rintro e w5 ⟨D5, c5, rfl, hl5, hc5, hf5, hb5⟩
              rw [← E1.out] at hl5 hc5 ⊢
              have HB6 := Lib.hid (HB5.out.trans (hb5.mono HB5.out.size))
              have HC5 := Lib.hid hc5
              have HQ5 := Lib.hid (HQ4.out.keep hb5)
              have HF5 := Lib.hid (hf5.mono (show w.heap.size + 1 ≤ w4.heap.size from HQ4.out.lt))
              clear hb5 hc5 hf5 HB5 HC4 HQ4
              obtain ⟨hcq, hfq⟩ := HQ5.out.at_ (show j < n by omega)
              rw [HQJ.out] at hcq
              have hqb : qpart (d16 (a / b) j) s' ≤ 65535 := by
                have h1 := d16_lt (a / b) j
                have h2 : qpart (d16 (a / b) j) s' ≤ d16 (a / b) j := Nat.div_mul_le_self _ _
                omega
              have hqs : qpart (d16 (a / b) j) s + pw ≤ 65535 := by rw [← E2.out]; exact hqb
              clear hqb
              obtain ⟨qv, hqv⟩ : ∃ qv, qv = qpart (d16 (a / b) j) s := ⟨_, rfl⟩
              rw [← hqv] at hcq hqs
              have HQV := Lib.hid hqv
              clear hqv
              go_wp2
              go_roundw
              case rel =>
                have hp := HQ5.out.put (k := j) (F' := Dg (qi (a / b) j s')) (u := .int .i64 ((qv : Int) + pw)) fun t _ => by
                  unfold Dg
                  rw [qi_put (a / b) j s s' t]
                  by_cases ht : t = j
                  · rw [if_pos ht, if_pos ht, E2.out, ← HQV.out, Int.natCast_add]
                  · rw [if_neg ht, if_neg ht]
                refine ⟨s', D5, c5, pw / 2, by have := HS.out; omega, by omega, ?_, ?_, by go_num, rfl, hl5, ?_, HF5, hp.1, ?_⟩
                · have h1 := HPW.out
                  rcases Nat.eq_zero_or_pos s' with h | h
                  · subst h; rw [h1]; try simp
                  · have : 2 ^ s' = 2 * 2 ^ (s' - 1) := by rw [← Nat.pow_succ']; congr 1; omega
                    have := Nat.pow_pos (n := s' - 1) (show 0 < 2 by omega)
                    omega
                · intro h
                  rw [HPW.out, show s' = (s' - 1) + 1 by omega, Nat.pow_succ, Nat.mul_div_cancel _ (by omega)]; congr 1
                · exact HC5.out.set_ HF5.out (Nat.lt_succ_self _) _ _
                · exact HB6.out.trans ((only_below hp.2 (Nat.le_of_lt HQ5.out.lt)).mono (Nat.le_refl _))
              case measure => simp [intOf]; omega
            · have hcv : cmpI R3 b = -1 := by unfold cmpI; rw [if_pos (by omega)]
              rw [hcv]
              clear hcv
              obtain ⟨e1, e2⟩ := HB3.out.2 hge
              have E1 := Lib.hid e1
              have E2 := Lib.hid e2
              clear e1 e2 hge HB3
              go_wp2
              go_roundw
              case rel =>
                refine ⟨s', D2, c2, pw / 2, by have := HS.out; omega, by omega, ?_, ?_, by go_num, by rw [E1.out], by rw [E1.out]; exact hl3, by rw [E1.out]; exact HC4, HF3, ?_, HB5⟩
                · have h1 := HPW.out
                  rcases Nat.eq_zero_or_pos s' with h | h
                  · subst h; rw [h1]; try simp
                  · have : 2 ^ s' = 2 * 2 ^ (s' - 1) := by rw [← Nat.pow_succ']; congr 1; omega
                    have := Nat.pow_pos (n := s' - 1) (show 0 < 2 by omega)
                    omega
                · intro h
                  rw [HPW.out, show s' = (s' - 1) + 1 by omega, Nat.pow_succ, Nat.mul_div_cancel _ (by omega)]; congr 1
                · refine HQ4.out.congr fun t _ => ?_
                  unfold Dg
                  rw [qi_put (a / b) j s s' t]
                  by_cases ht : t = j
                  · rw [if_pos ht, ht, E2.out]; unfold qi; rw [if_neg (by omega), if_pos rfl]
                  · rw [if_neg ht]
              case measure => simp [intOf]; omega
        · obtain rfl : s = 0 := by omega
          have hpw0 : pw = 0 := by omega
          subst hpw0
          clear hs0 HP hsp
          go_wp2
          go_roundw
          case rel => exact ⟨j, Dr, cr, by omega, by go_num, rfl, hlc, HC, HF, HQ, HB⟩
          case measure => simp [intOf]
    · obtain rfl : k = 0 := by omega
      clear hk0
      have hrz : rr a b (16 * 0) = a % b := rr_end a b
      rw [hrz] at hlc HC ⊢
      have HQC := Lib.hid ((HQ.out.cells (o := 0) (n := n) (by omega)).congr (G := Dg (d16 (a / b))) fun t _ => by unfold Dg; rw [Nat.zero_add, qi_end])
      have HQF := Lib.hid (show Fit16 (a / b) n from fit16_of (by rw [HX.out]; exact Nt.len_mono (by omega) (Nat.div_le_self a b)))
      have HQL := Lib.hid (fit16_le HQF.out)
      clear hrz
      go_wp2_with fail
      refine (rtrim_any (N := a / b) (by omega) (Nat.le_refl _) HQF.out HQC.out).mono ?_
      rintro e w5 ⟨rfl, rfl⟩
      go_wp2
      go_ret2
      exact ⟨_, _, _, _, rfl, HQL.out, hlc, HQC.out.sub HQL.out, HC.out, Fresh.at_ (Nat.le_refl _), HF.out.mono (by omega), HB.out⟩
end Go.Proofs.Ytiflmnmkmpjecaa

/- The walk of the reference's DivMod. -/
set_option linter.unusedVariables false
namespace Go.Proofs.Ytiflmnmkmpjecaa
open Go.RowKit

theorem Bq.all {w w' : World} {S T R1 R2 : Value} (h : Bq w w' S T R1 R2) : w'.cell? ⟨w.heap.size, 0, none⟩ = some S ∧ w'.cell? ⟨w.heap.size + 1, 0, none⟩ = some T ∧ Bq w w' S T R1 R2 := ⟨h.facts.1, h.facts.2.1, h⟩
theorem L16_128 {x : Nat} (h : L32 x ≤ 64) : L16 x ≤ 128 := by have := L32_half x; omega
set_option maxHeartbeats 4000000 in
set_option maxRecDepth 100000 in
theorem refDivmod_any {D E : Option Addr} {n m c c' x y : Nat} {w : World} (hn : n ≤ 64) (hm : m ≤ 64) (hnx : n = L32 x) (hmy : m = L32 y) (hx : Cells w D n (Lm (d32 x))) (hy : Cells w E m (Lm (d32 y))) (hy0 : 0 < y) :
    Calls Try.prog 80 #[natv D n c, natv E m c'] w fun e w' => DivRes w.heap.size w' e (x / y) (x % y) ∧ Below w.heap.size w w' := by
  have hvx := Lib.hid (vd_true hn hnx)
  have hvy := Lib.hid (vd_true hm hmy)
  have HX := Lib.hid hnx
  have HY := Lib.hid hmy
  have lx : L16 x ≤ 128 := L16_128 (by omega)
  have ly : L16 y ≤ 128 := L16_128 (by omega)
  have hq64 : L32 (x / y) ≤ 64 := Nat.le_trans (Nt.len_mono (by omega) (Nat.div_le_self x y)) (by show L32 x ≤ 64; omega)
  have hr64 : L32 (x % y) ≤ 64 := Nat.le_trans (Nt.len_mono (by omega) (Nat.mod_le x y)) (by show L32 x ≤ 64; omega)
  have hm0 : 0 < m := by
    rcases Nat.eq_zero_or_pos m with h | h
    · rw [h] at hmy; have := L32_zero.1 hmy.symm; omega
    · exact h
  have HY0 := Lib.hid hy0
  clear hnx hmy hy0
  have hm0i : ((m : Nat) : Int) ≠ 0 := by omega
  have BO0 := Lib.hid (Bq.new w (.slice D n c) (.slice E m c') (.slice none 0 0) (.slice none 0 0))
  unfold natv
  go_enter Try.func80, Try.ntmps80
  go_wp2_with fail
  refine (rvalid_is (by omega) (hx.below BO0.out.below) hvx.out).mono ?_
  rintro e w1 ⟨rfl, hb1⟩
  have BO1 := Lib.hid (BO0.out.on hb1)
  obtain ⟨q0, q1, q2, q3, f2, f3, hlt⟩ := BO1.out.facts
  clear hb1 BO0
  go_wp2_with fail
  refine (rvalid_is (by omega) (hy.below BO1.out.below) hvy.out).mono ?_
  rintro e w2 ⟨rfl, hb1⟩
  clear q0 q1 q2 q3 f2 f3 hlt
  have BO2 := BO1.out.on hb1
  obtain ⟨q0, q1, q2, q3, f2, f3, hlt⟩ := BO2.facts
  clear hb1 BO1
  have hx2 := hx.below BO2.below
  have hy2 := hy.below BO2.below
  have HY0b := HY0.out
  go_upto_region 5 with (fail)
  go_cut [7, 8] (fun s7 s8 wx => ∃ (Dq : Option Addr) (cq : Nat) (Dr : Option Addr) (cr : Nat), s7 = .slice Dq (L16 (x / y)) cq ∧ s8 = .slice Dr (L16 (x % y)) cr ∧ L16 (x / y) ≤ cq ∧ L16 (x % y) ≤ cr ∧ Hid (Cells wx Dq (L16 (x / y)) (Dg (d16 (x / y)))) ∧ Hid (Cells wx Dr (L16 (x % y)) (Dg (d16 (x % y)))) ∧ Hid (Bq w wx (.slice D n c) (.slice E m c') (.slice none 0 0) (.slice none 0 0)))
  case first =>
    have BOd : Bq w w2.drew (.slice D n c) (.slice E m c') (.slice none 0 0) (.slice none 0 0) := BO2.on (bl_drew (Below.refl _ _))
    go_region_held3 (fun w' => w'.cell? ⟨w.heap.size, 0, none⟩ = some (.slice D n c) ∧ w'.cell? ⟨w.heap.size + 1, 0, none⟩ = some (.slice E m c') ∧ Bq w w' (.slice D n c) (.slice E m c') (.slice none 0 0) (.slice none 0 0))
        (first
          | exact Bq.all (by assumption)
          | exact Bq.all (Bq.on (by assumption) (bl_alloc (Below.refl _ _) _)))
        (first
          | (go_at_call_of 79 (Value.agg #[Value.slice D n c]); refine (halves_any (x := x) (by omega) HX.out (Cells.below hx2 ?_)).mono ?_; (first | exact Below.refl _ _ | assumption | exact bl_drew (Below.refl _ _)); rintro e w5 ⟨D5, c5, rfl, hl5, hc5, hf5, hb5⟩; have k05 : Below w2.heap.size w2 w5 := (by first | exact hb5 | exact bl_on (bl_drew (Below.refl _ _)) hb5); have B5 := BO2.on k05)
          | (go_at_call_of 79 (Value.agg #[Value.slice E m c']); refine (halves_any (x := y) (by omega) HY.out (Cells.below hy2 ?_)).mono ?_; (first | exact Below.refl _ _ | assumption | exact bl_drew (Below.refl _ _)); rintro e w6 ⟨D6, c6, rfl, hl6, hc6, hf6, hb6⟩; have B6 := B5.on hb6)
          | (go_at_call 103; refine (rdivide_any (a := x) (b := y) (by omega) (by omega) HY0b rfl rfl (Cells.below hc5 ?_) (Cells.below hc6 ?_)).mono ?_; (first | exact Below.refl _ _ | assumption); (first | exact Below.refl _ _ | assumption); rintro e w7 ⟨D7, c7, D8, c8, rfl, hl7, hl8, hc7, hc8, hf7, hf8, hb7⟩; have B7 := B6.on hb7))
    all_goals
      go_wp2_with fail
      go_meet
      case rel => exact ⟨D7, c7, D8, c8, rfl, rfl, hl7, hl8, hc7, hc8, B7⟩
  case rest =>
    obtain ⟨Dq, cq, Dr, cr, rfl, rfl, hlq, hlr, HCQ, HCR, BO3⟩ := hcut
    clear q0 q1 q2 q3 f2 f3 hlt hx2 hy2 hvx hvy HX HY
    obtain ⟨q0, q1, q2, q3, f2, f3, hlt⟩ := BO3.out.facts
    have lq : L16 (x / y) ≤ 128 := L16_128 hq64
    have lr : L16 (x % y) ≤ 128 := L16_128 hr64
    obtain ⟨q, hq⟩ : ∃ q, q = x / y := ⟨_, rfl⟩
    obtain ⟨r, hr⟩ : ∃ r, r = x % y := ⟨_, rfl⟩
    rw [← hq] at hlq hq64 HCQ lq ⊢
    rw [← hr] at hlr hr64 HCR lr ⊢
    have HQ := Lib.hid hq
    have HR := Lib.hid hr
    clear hq hr BO2
    go_wp2_with fail
    refine (whole_yes (x := q) (by omega) hlq (fit16_len _) HCQ.out hq64).mono ?_
    rintro e w4 ⟨D4, c4, rfl, hl4, hc4, hf4, hb4⟩
    clear q0 q1 q2 q3 f2 f3
    have BO4 := Lib.hid ((BO3.out.on hb4).on (bl_alloc (Below.refl _ _) (.cells #[.slice D4 (L32 q) c4] 32)))
    have BX4 := Lib.hid (Blk.new w4 32 #[.slice D4 (L32 q) c4])
    have HF4 := Lib.hid (hf4.mono (Nat.succ_le_of_lt hlt))
    have HC4 := Lib.hid (hc4.alloc (.cells #[.slice D4 (L32 q) c4] 32))
    have HCR4 := Lib.hid ((HCR.out.below hb4).alloc (.cells #[.slice D4 (L32 q) c4] 32))
    have hs4 := hb4.size
    clear hb4 hc4 hf4 BO3 HCR HCQ
    obtain ⟨q0, q1, q2, q3, f2, f3, hlt4⟩ := BO4.out.facts
    go_wp2_with fail
    refine (whole_yes (x := r) (by omega) hlr (fit16_len _) HCR4.out hr64).mono ?_
    rintro e w5 ⟨D5, c5, rfl, hl5, hc5, hf5, hb5⟩
    clear q0 q1 q2 q3 f2 f3
    have BO5 := Lib.hid ((BO4.out.on hb5).on (bl_alloc (Below.refl _ _) (.cells #[.slice D5 (L32 r) c5] 32)))
    have BX5 := Lib.hid (Blk.new w5 32 #[.slice D5 (L32 r) c5])
    have BX6 := Lib.hid ((BX4.out.keep hb5).alloc (.cells #[.slice D5 (L32 r) c5] 32))
    have HF5 := Lib.hid (hf5.mono (Nat.succ_le_of_lt hlt4))
    have HC5 := Lib.hid (hc5.alloc (.cells #[.slice D5 (L32 r) c5] 32))
    have HC6 := Lib.hid ((HC4.out.below hb5).alloc (.cells #[.slice D5 (L32 r) c5] 32))
    have hs5 := hb5.size
    clear hb5 hc5 hf5 BO4 HC4 HCR4 BX4
    obtain ⟨q0, q1, q2, q3, f2, f3, hlt5⟩ := BO5.out.facts
    have r0 : (w5.alloc (.cells #[.slice D5 (L32 r) c5] 32)).cell? ⟨w4.heap.size, 0, none⟩ = some (.slice D4 (L32 q) c4) := BX6.out.cell 0
    have r1 : (w5.alloc (.cells #[.slice D5 (L32 r) c5] 32)).cell? ⟨w5.heap.size, 0, none⟩ = some (.slice D5 (L32 r) c5) := BX5.out.cell 0
    have hz4 := BX6.out.lt
    rw [World.size_alloc] at hs5
    have n5 : w.heap.size + 1 + 1 ≠ w4.heap.size := by omega
    have n6 : w.heap.size + 1 + 1 + 1 ≠ w4.heap.size := by omega
    have n7 : w.heap.size + 1 + 1 ≠ w5.heap.size := by omega
    have n8 : w.heap.size + 1 + 1 + 1 ≠ w5.heap.size := by omega
    have n1 : w4.heap.size ≠ w.heap.size + 1 + 1 := by omega
    have n2 : w4.heap.size ≠ w.heap.size + 1 + 1 + 1 := by omega
    have n3 : w5.heap.size ≠ w.heap.size + 1 + 1 := by omega
    have n4 : w5.heap.size ≠ w.heap.size + 1 + 1 + 1 := by omega
    go_wp2
    go_region_held3 (fun w' => w'.cell? ⟨w4.heap.size, 0, none⟩ = some (.slice D4 (L32 q) c4) ∧ w'.cell? ⟨w5.heap.size, 0, none⟩ = some (.slice D5 (L32 r) c5) ∧ w'.frozen? ⟨w.heap.size + 1 + 1, 0, none⟩ = false ∧ w'.frozen? ⟨w.heap.size + 1 + 1 + 1, 0, none⟩ = false) (go_keep) (fail)
    all_goals
      go_wp2
      refine bodyPost_ret (v := .tuple #[natv D4 (L32 q) c4, natv D5 (L32 r) c5, .int .i64 0]) (by unfold natv; simp [results, Try.results80, go_sem, q2, q3]) rfl ?_
      have hb8 := ((BO5.out.below.setCell (p := ⟨w.heap.size + 1 + 1, 0, none⟩) (by simp; omega) (.slice D4 (L32 q) c4)).setCell (p := ⟨w.heap.size + 1 + 1 + 1, 0, none⟩) (by simp; omega) (.slice D5 (L32 r) c5)).drew
      rw [← HQ.out, ← HR.out]
      refine ⟨⟨D4, c4, D5, c5, rfl, hl4, hl5, ?_, ?_, HF4.out.mono (by omega), HF5.out.mono (by omega)⟩, hb8⟩
      · exact (HC6.out.set_ HF4.out (by omega) _ _).set_ HF4.out (by omega) _ _
      · exact (HC5.out.set_ HF5.out (by omega) _ _).set_ HF5.out (by omega) _ _
end Go.Proofs.Ytiflmnmkmpjecaa
