/- The walks of the reference's Offset and Reduce, and of the comparisons of results. -/
import Derived.Test.YtjifpiaianmmbaaDebtReduce
import Derived.Deep.RegionHeld3
set_option linter.unusedVariables false
namespace Go.Proofs.Ytjifpiaianmmbaa
open Go.RowKit

theorem refOffset_err {D : Option Addr} {n c : Nat} {C : Nat → ByteArray} {R A : Nat → Int} {y a : Int} {w : World} (hn : n ≤ 9223372036854775807) (h : Cells w D (n * 3) (Three C R A)) (hC : ∀ i, i < n → (C i).size ≤ maxLen) (hy : Db.chk C R A n = y) (h0 : y ≠ 0) :
    Calls Try.prog 23 #[.slice D n c, .int .i64 a] w fun e w' => e = .returned (.tuple #[.slice none 0 0, .int .i64 0, .int .i64 y]) ∧ Below w.heap.size w w' := by
  have Hy := Lib.hid hy
  clear hy
  go_enter Try.func23, Try.ntmps23
  go_wp2_with fail
  refine (refDcheck_at hn h hC Hy.out).mono ?_
  rintro e w1 ⟨rfl, hb1⟩
  go_wp2
  go_ret3
  exact ⟨rfl, hb1⟩
theorem refOffset_range {D : Option Addr} {n c : Nat} {C : Nat → ByteArray} {R A : Nat → Int} {a : Int} {w : World} (hn : n ≤ 9223372036854775807) (h : Cells w D (n * 3) (Three C R A)) (hC : ∀ i, i < n → (C i).size ≤ maxLen) (hy : Db.chk C R A n = 0) (h0 : a < 0 ∨ 1000000000000 < a) :
    Calls Try.prog 23 #[.slice D n c, .int .i64 a] w fun e w' => e = .returned (.tuple #[.slice none 0 0, .int .i64 0, .int .i64 2]) ∧ Below w.heap.size w w' := by
  have Hy := Lib.hid hy
  have H0 := Lib.hid h0
  clear hy h0
  go_enter Try.func23, Try.ntmps23
  go_wp2_with fail
  refine (refDcheck_at hn h hC Hy.out).mono ?_
  rintro e w1 ⟨rfl, hb1⟩
  go_wp2_with fail
  refine (refValid_no _ _ H0.out).mono ?_
  rintro e w2 ⟨rfl, rfl⟩
  go_wp2
  go_ret3
  exact ⟨rfl, hb1⟩
set_option maxHeartbeats 1000000 in
theorem refOffset_fresh {D : Option Addr} {n c : Nat} {C : Nat → ByteArray} {R A : Nat → Int} {a : Int} {w : World} (hn : n ≤ 9223372036854775807) (h : Cells w D (n * 3) (Three C R A)) (hC : ∀ i, i < n → (C i).size ≤ maxLen) (hy : Db.chk C R A n = 0) (h0 : 0 ≤ a) (h1 : a ≤ 1000000000000) :
    Calls Try.prog 23 #[.slice D n c, .int .i64 a] w fun e w' => ∃ D' c', e = .returned (.tuple #[.slice D' n c', .int .i64 (Db.left A a n), .int .i64 0]) ∧ Cells w' D' (n * 1) (Ints (Db.get A a)) ∧ Below w.heap.size w w' ∧ Fresh w.heap.size D' := by
  obtain ⟨i0, hi, hz0, hz1, hz2⟩ := info_parts Try.info3
  have hn16 := (Db.of_chk hy).1
  have Hy := Lib.hid hy
  clear hy
  go_enter Try.func23, Try.ntmps23
  go_wp2_with fail
  refine (refDcheck_at hn h hC Hy.out).mono ?_
  rintro e w1 ⟨rfl, hb1⟩
  go_wp2_with fail
  refine (refValid_yes _ _ h0 h1).mono ?_
  rintro e w2 ⟨rfl, rfl⟩
  go_wp2
  go_loopw [1, 8, 9] (fun am v i wr => ∃ k : Nat, k ≤ n ∧ i = .int .i64 k ∧ am = .int .i64 (Db.left A a k) ∧ wr.ownsRow w.heap.size 3 1 v k (row (k * 1) (Ints (Db.get A a))) ∧ Below w.heap.size w wr) (fun _ _ i _ => n - (intOf i).toNat)
  case atStart => exact ⟨0, Nat.zero_le _, rfl, rfl, World.ownsRow_nil _ _ _ _, hb1⟩
  case round =>
    obtain ⟨k, hk, rfl, rfl, hown, hbw⟩ := hrel
    have hszr := hbw.size
    by_cases hkn : k < n
    · obtain ⟨b, off, rfl, hlt, _, _, hc2⟩ := (h.below hbw).three hkn
      have hlb := Db.left_bounds h0 (fun i hi => (Db.ok_in Hy.out hi).2.2.1) k hk
      have hA1 := (Db.ok_in Hy.out hkn).2.2.1
      have hA2 := (Db.ok_in Hy.out hkn).2.2.2
      obtain ⟨l, hl⟩ : ∃ l, l = Db.left A a k := ⟨_, rfl⟩
      rw [← hl] at hlb ⊢
      have HL := Lib.hid hl
      clear hl
      by_cases hlx : l < A k
      · have Hg := Lib.hid (show Db.get A a k = l by unfold Db.get; rw [← HL.out]; omega)
        have Hl1 := Lib.hid (show Db.left A a (k + 1) = l - l by rw [Db.left_succ, Hg.out, ← HL.out])
        go_wp2_with (at_builtin; refine wpList_append_own _ rfl _ _ 25 rfl w.heap.size 3 i0 (.int .i64 0) 1 8 Try.underlying25 hi hz0 hz1 hz2 rfl (by decide) _ _ _ rfl (hown.alloc _) ⟨wr.heap.size, 0, none⟩ 1 1 [.int .i64 l] rfl rfl ?c1 ?c2 ?c3 ?c4 ?c5 ?_)
        try case c1 => intro j u hj; exact new_cell rfl (by simpa using hj)
        case c2 => intro u hu; simp at hu; subst hu; rfl
        case c3 => unfold maxLen; omega
        case c4 => omega
        case c5 => simp; omega
        intro v' w3 hown' hgrow _
        have hb3 := own_below (hbw.alloc hszr (.cells #[.int .i64 l] 3)) (hown.alloc _) (by simp; omega) hgrow
        have hown3 : w3.ownsRow w.heap.size 3 1 v' (k + 1) (row ((k + 1) * 1) (Ints (Db.get A a))) := by
          rw [Nat.mul_one, row_one, Ints_at, Hg.out]
          exact hown'
        clear hown' hgrow hown hbw
        go_wp2
        go_roundw
        case rel => exact ⟨k + 1, by omega, by go_num, by rw [Hl1.out]; go_num, hown3, hb3⟩
        case measure => simp [intOf]; omega
      · have Hg := Lib.hid (show Db.get A a k = A k by unfold Db.get; rw [← HL.out]; omega)
        have Hl1 := Lib.hid (show Db.left A a (k + 1) = l - A k by rw [Db.left_succ, Hg.out, ← HL.out])
        go_wp2_with (at_builtin; refine wpList_append_own _ rfl _ _ 25 rfl w.heap.size 3 i0 (.int .i64 0) 1 8 Try.underlying25 hi hz0 hz1 hz2 rfl (by decide) _ _ _ rfl (hown.alloc _) ⟨wr.heap.size, 0, none⟩ 1 1 [.int .i64 (A k)] rfl rfl ?e1 ?e2 ?e3 ?e4 ?e5 ?_)
        try case e1 => intro j u hj; exact new_cell rfl (by simpa using hj)
        case e2 => first | rfl | (intro u hu; simp at hu; subst hu; rfl)
        case e3 => unfold maxLen; omega
        case e4 => omega
        case e5 => first | omega | (simp; omega)
        intro v' w3 hown' hgrow _
        have hb3 := own_below (hbw.alloc hszr (.cells #[.int .i64 (A k)] 3)) (hown.alloc _) (by simp; omega) hgrow
        have hown3 : w3.ownsRow w.heap.size 3 1 v' (k + 1) (row ((k + 1) * 1) (Ints (Db.get A a))) := by
          rw [Nat.mul_one, row_one, Ints_at, Hg.out]
          exact hown'
        clear hown' hgrow hown hbw
        go_wp2
        go_roundw
        case rel => exact ⟨k + 1, by omega, by go_num, by rw [Hl1.out], hown3, hb3⟩
        case measure => simp [intOf]; omega
    · obtain rfl : k = n := by omega
      obtain ⟨D', c', rfl, _⟩ := own_slice hown
      have HC := Lib.hid (Cells.of_own hown)
      have HF := Lib.hid (Fresh.of_own hown)
      have HB := Lib.hid hbw
      clear hown hbw
      go_wp2
      go_ret3
      exact ⟨D', c', rfl, HC.out, HB.out, HF.out⟩

theorem refOffset_ok {D : Option Addr} {n c : Nat} {C : Nat → ByteArray} {R A : Nat → Int} {a : Int} {w : World} (hn : n ≤ 9223372036854775807) (h : Cells w D (n * 3) (Three C R A)) (hC : ∀ i, i < n → (C i).size ≤ maxLen) (hy : Db.chk C R A n = 0) (h0 : 0 ≤ a) (h1 : a ≤ 1000000000000) :
    Calls Try.prog 23 #[.slice D n c, .int .i64 a] w fun e w' => ∃ D' c', e = .returned (.tuple #[.slice D' n c', .int .i64 (Db.left A a n), .int .i64 0]) ∧ Cells w' D' (n * 1) (Ints (Db.get A a)) ∧ Below w.heap.size w w' :=
  (refOffset_fresh hn h hC hy h0 h1).mono fun _ _ ⟨D', c', he, hc, hb, _⟩ => ⟨D', c', he, hc, hb⟩

end Go.Proofs.Ytjifpiaianmmbaa
