/- The walk of the reference's half. -/
import Derived.Test.YtiflmnmkmpjecaaG1
import Derived.Test.YtiflmnmkmpjecaaNatLong3
import Derived.Test.YtiflmnmkmpjecaaNatDivMod
set_option linter.unusedVariables false
namespace Go.Proofs.Ytiflmnmkmpjecaa
open Go.RowKit

/-- The bit that is carried down to digit k - 1. -/
def hrest (x k : Nat) : Nat := x / 65536 ^ k % 2
theorem hrest_le (x k : Nat) : hrest x k ≤ 1 := by have := Nat.mod_lt (x / 65536 ^ k) (show 0 < 2 by omega); unfold hrest; omega
theorem hrest_top {x n : Nat} (h : Fit16 x n) : hrest x n = 0 := by unfold hrest; rw [Nat.div_eq_of_lt h]
theorem hrest_quo {x k : Nat} : (hrest x (k + 1) * 65536 + d16 x k) / 2 = d16 (x / 2) k := (Nt.small_quo (by omega) (by omega)).symm
theorem hrest_mod {x k : Nat} : (hrest x (k + 1) * 65536 + d16 x k) % 2 = hrest x k := (Nt.small_rem (by omega) (by omega)).symm
def hcell (x k t : Nat) : Nat := if t < k then 0 else d16 (x / 2) t
theorem hcell_next (x k t : Nat) : Dg (hcell x k) t = if t = k then .int .i64 (d16 (x / 2) k : Int) else Dg (hcell x (k + 1)) t := by
  unfold Dg hcell
  by_cases e : t = k
  · subst e; rw [if_neg (by omega), if_pos rfl]
  · rw [if_neg e]
    by_cases h : t < k
    · rw [if_pos h, if_pos (by omega)]
    · rw [if_neg h, if_neg (show ¬ t < k + 1 by omega)]
theorem hcell_end (x t : Nat) : hcell x 0 t = d16 (x / 2) t := by unfold hcell; rw [if_neg (by omega)]

set_option maxHeartbeats 1000000 in
set_option maxRecDepth 100000 in
theorem rhalf_any {D : Option Addr} {n c x : Nat} {w : World} (hn : n ≤ 1000) (hnx : n = L16 x) (hx : Cells w D n (Dg (d16 x))) :
    Calls Try.prog 99 #[.slice D n c] w fun e w' => ∃ Dr cr, e = .returned (.slice Dr (L16 (x / 2)) cr) ∧ L16 (x / 2) ≤ cr ∧ Cells w' Dr (L16 (x / 2)) (Dg (d16 (x / 2))) ∧ Fresh w.heap.size Dr ∧ Below w.heap.size w w' := by
  obtain ⟨i0, hi, hz0, hz1, hz2⟩ := info_parts Try.infoI
  have HN := Lib.hid (show Fit16 x n by rw [hnx]; exact fit16_len x)
  have HL := Lib.hid (show L16 (x / 2) ≤ n by rw [hnx]; exact Nt.len_mono (by omega) (Nat.div_le_self x 2))
  have HR := Lib.hid (hrest_top HN.out)
  clear hnx
  go_enter Try.func99, Try.ntmps99
  go_wp2_with (at_make; refine wpList_make_full _ rfl _ _ 24 rfl w.heap.size 3 i0 (.int .i64 0) 1 Try.underlying24 hi hz0 hz1 _ _ _ _ n rfl rfl ?c1 ?c2 ?c3 ?c4 ?c5 ?_)
  case c1 => first | rfl | omega
  case c2 => first | rfl | omega
  case c3 => rw [hz2]; omega
  case c4 => unfold maxLen; omega
  case c5 => exact Nat.le_refl _
  intro w1 hown hgr
  have HB1 := Lib.hid (show Below w.heap.size w w1 from ⟨hgr.os, hgr.tape, hgr.output, hgr.size, fun k hk => hgr.block k hk (by simp)⟩)
  obtain ⟨hAq, hgb⟩ := Arr.own (made_own (z := .int .i64 0) hown)
  have HQ1 := Lib.hid (hAq.congr (F' := Dg (hcell x n)) fun t ht => by unfold Dg hcell; rw [if_pos ht]; rfl)
  clear hown hgr hAq
  go_wp2
  go_loopw [4, 5] (fun r i wr => ∃ k : Nat, k ≤ n ∧ i = .int .i64 ((k : Int) - 1) ∧ r = .int .i64 (hrest x k : Int) ∧ Hid (Arr wr w.heap.size 3 n (Dg (hcell x k))) ∧ Hid (Below w.heap.size w wr)) (fun _ i _ => (intOf i + 1).toNat)
  case atStart => exact ⟨n, Nat.le_refl _, rfl, by rw [HR.out]; rfl, HQ1, HB1⟩
  case round =>
    obtain ⟨k, hk, rfl, rfl, HA, HB⟩ := hrel
    by_cases hk0 : 0 < k
    · obtain ⟨j, rfl⟩ : ∃ j, k = j + 1 := ⟨k - 1, by omega⟩
      have ej : ((j + 1 : Nat) : Int) - 1 = (j : Int) := by omega
      rw [ej]
      clear ej
      obtain ⟨hc, hf⟩ := HA.out.at_ (show j < n by omega)
      obtain ⟨b1, o1, rfl, hlt1, hc1⟩ := (hx.below HB.out).dg (show j < n by omega)
      have hd := d16_lt x j
      have hr := hrest_le x (j + 1)
      have hr2 := hrest_le x j
      have hq := d16_lt (x / 2) j
      obtain ⟨T, hT⟩ : ∃ T, T = hrest x (j + 1) * 65536 + d16 x j := ⟨_, rfl⟩
      have hTs : 65536 * (hrest x (j + 1) : Int) + (d16 x j : Int) = (T : Int) := by rw [hT]; omega
      have hTq : ((T : Nat) : Int) / 2 = (d16 (x / 2) j : Int) := by rw [hT]; have := hrest_quo (x := x) (k := j); omega
      have hTr : ((T : Nat) : Int) % 2 = (hrest x j : Int) := by rw [hT]; have := hrest_mod (x := x) (k := j); omega
      have hT2 : (T : Int) ≤ 131071 := by omega
      have hU := Lib.hid (fun t => hcell_next x j t)
      have hj0 : (0 : Int) ≤ (j : Int) := by omega
      have hji : (j : Int) < (n : Int) := by omega
      clear hT
      go_wp2
      go_roundw
      case rel =>
        rw [hTr]
        have hp := HA.out.put (k := j) (F' := Dg (hcell x j)) (u := .int .i64 (d16 (x / 2) j : Int)) fun t _ => hU.out t
        exact ⟨j, by omega, rfl, rfl, hp.1, HB.out.trans ((only_below hp.2 (Nat.le_of_lt HA.out.lt)).mono (Nat.le_refl _))⟩
      case measure => simp [intOf]
    · obtain rfl : k = 0 := by omega
      have HC := Lib.hid ((HA.out.cells (o := 0) (n := n) (by omega)).congr (G := Dg (d16 (x / 2))) fun t _ => by unfold Dg; rw [Nat.zero_add, hcell_end])
      have HF := Lib.hid (show Fit16 (x / 2) n from fit16_of HL.out)
      go_wp2_with fail
      refine (rtrim_any (N := x / 2) (by omega) (Nat.le_refl _) HF.out HC.out).mono ?_
      rintro e w2 ⟨rfl, rfl⟩
      go_wp2
      go_ret
      exact ⟨_, _, rfl, HL.out, HC.out.sub HL.out, Fresh.at_ (Nat.le_refl _), HB.out⟩
end Go.Proofs.Ytiflmnmkmpjecaa
