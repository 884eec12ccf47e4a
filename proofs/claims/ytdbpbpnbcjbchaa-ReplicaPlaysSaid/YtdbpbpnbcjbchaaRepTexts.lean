/- The walk of texts: the texts of a log's entries. -/
import Derived.Test.YtdbpbpnbcjbchaaRepCopy
set_option linter.unusedVariables false
namespace Go.Proofs.Ytdbpbpnbcjbchaa
open Go.RowKit
namespace Rp
def Tx (l : Log) : Nat → Value := fun j => .string (tt l j)
set_option maxHeartbeats 2000000 in
theorem texts_any {w : World} {A : Option Addr} {n c : Nat} {l : Log} (hA : Cells w A (n * 2) (Ent l)) (hn : n ≤ 1024) :
    Calls Try.prog 35 #[.slice A n c] w fun e w' => ∃ v, e = .returned v ∧ w'.ownsRow w.heap.size 9 1 v n (row (n * 1) (Tx l)) ∧ Below w.heap.size w w' := by
  obtain ⟨i0, hi, hz0, hz1, hz2⟩ := info_parts Try.infoStr
  have HA := Lib.hid hA
  clear hA
  go_enter Try.func35, Try.ntmps35
  go_wp2_with (at_make; refine wpList_make_own _ rfl _ _ 22 rfl w.heap.size 9 i0 (.string ByteArray.empty) 1 Try.underlying22 hi hz0 hz1 _ _ _ n rfl rfl rfl ?c1 ?c2 ?c3 ?_)
  case c1 => rw [hz2]; omega
  case c2 => unfold maxLen; omega
  case c3 => omega
  intro w2 hown2 hgr2
  have hb2 : Below w.heap.size w w2 := (Below.refl _ _).grown hgr2 (Nat.le_refl _) (by simp)
  have HO2 := Lib.hid hown2
  have HB2 := Lib.hid hb2
  clear hown2 hgr2 hb2
  go_wp2
  go_loopw [3, 11] (fun v i wr => ∃ k : Nat, k ≤ n ∧ i = .int .i64 k ∧ wr.ownsRow w.heap.size 9 1 v k (row (k * 1) (Tx l)) ∧ Below w.heap.size w wr) (fun _ i _ => n - (intOf i).toNat)
  case atStart => exact ⟨0, Nat.zero_le _, rfl, HO2.out, HB2.out⟩
  case round =>
    obtain ⟨k, hk, rfl, hown, hbw⟩ := hrel
    have hszr := hbw.size
    by_cases hkn : k < n
    · obtain ⟨b, off, e, hlt, hc⟩ := (HA.out.below hbw) (by omega)
      subst e
      have hc0 := (hc (k * 2) (by omega)).trans (by rw [(Ent_at _ _).1])
      have hc1 := (hc (k * 2 + 1) (by omega)).trans (by rw [(Ent_at _ _).2])
      rw [← Nat.add_assoc] at hc1
      have Hrow := Lib.hid (show row ((k + 1) * 1) (Tx l) = row (k * 1) (Tx l) ++ [.string (tt l k)] by rw [Nat.mul_one, Nat.mul_one, row_one]; rfl)
      clear hc
      go_wp2_with (at_builtin; refine wpList_append_own _ rfl _ _ 22 rfl w.heap.size 9 i0 (.string ByteArray.empty) 1 16 Try.underlying22 hi hz0 hz1 hz2 rfl (by decide) _ _ _ rfl ((hown.alloc _).alloc _) ⟨wr.heap.size + 1, 0, none⟩ 1 1 [.string (tt l k)] rfl rfl ?c1 ?c2 ?c3 ?c4 ?c5 ?_)
      case c1 =>
        intro j u hj
        exact new_cell (by simp) (by simpa using hj)
      case c2 => intro u hu; simp at hu; subst hu; rfl
      case c3 => unfold maxLen; omega
      case c4 => omega
      case c5 => simp; omega
      intro v' w3 hown' hgrow _
      have hb3 := own_below ((hbw.alloc hszr _).alloc (by simp; omega) _) ((hown.alloc _).alloc _) (by simp; omega) hgrow
      have hown3 : w3.ownsRow w.heap.size 9 1 v' (k + 1) (row ((k + 1) * 1) (Tx l)) := by
        rw [Hrow.out]
        rw [Nat.mul_one]
        exact hown'
      clear hown' hgrow hown hbw
      go_wp2
      go_roundw
      case rel => exact ⟨k + 1, by omega, by go_num, hown3, hb3⟩
      case measure => simp [intOf]; omega
    · obtain rfl : k = n := by omega
      have HO := Lib.hid hown
      have HB := Lib.hid hbw
      clear hown hbw
      go_wp2
      go_ret
      exact ⟨_, rfl, HO.out, HB.out⟩
end Rp
end Go.Proofs.Ytdbpbpnbcjbchaa
