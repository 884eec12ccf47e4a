/- The walks of debt.Check and of its reference. -/
import Derived.Test.YtjifpiaianmmbaaNameWalks
set_option linter.unusedVariables false
namespace Go.Proofs.Ytjifpiaianmmbaa
open Go.RowKit

/-- Structs of a string and two ints. -/
def Three (C : Nat → ByteArray) (R A : Nat → Int) : Nat → Value := fun j => if j % 3 = 0 then .string (C (j / 3)) else if j % 3 = 1 then .int .i64 (R (j / 3)) else .int .i64 (A (j / 3))
theorem Three_at0 (C : Nat → ByteArray) (R A : Nat → Int) (k : Nat) : Three C R A (k * 3) = .string (C k) := by
  unfold Three; rw [if_pos (by omega), show k * 3 / 3 = k by omega]
theorem Three_at1 (C : Nat → ByteArray) (R A : Nat → Int) (k : Nat) : Three C R A (k * 3 + 1) = .int .i64 (R k) := by
  unfold Three; rw [if_neg (by omega), if_pos (by omega), show (k * 3 + 1) / 3 = k by omega]
theorem Three_at2 (C : Nat → ByteArray) (R A : Nat → Int) (k : Nat) : Three C R A (k * 3 + 2) = .int .i64 (A k) := by
  unfold Three; rw [if_neg (by omega), if_neg (by omega), show (k * 3 + 2) / 3 = k by omega]
theorem Cells.three {w : World} {D : Option Addr} {n : Nat} {C : Nat → ByteArray} {R A : Nat → Int} (h : Cells w D (n * 3) (Three C R A)) {k : Nat} (hk : k < n) :
    ∃ b off, D = some ⟨b, off, none⟩ ∧ b < w.heap.size ∧ w.cell? ⟨b, off + k * 3, none⟩ = some (.string (C k)) ∧ w.cell? ⟨b, off + k * 3 + 1, none⟩ = some (.int .i64 (R k)) ∧ w.cell? ⟨b, off + k * 3 + 2, none⟩ = some (.int .i64 (A k)) := by
  obtain ⟨b, off, e, hlt, hc⟩ := h (by omega)
  refine ⟨b, off, e, hlt, ?_, ?_, ?_⟩
  · rw [hc (k * 3) (by omega), Three_at0]
  · rw [show off + k * 3 + 1 = off + (k * 3 + 1) by omega, hc (k * 3 + 1) (by omega), Three_at1]
  · rw [show off + k * 3 + 2 = off + (k * 3 + 2) by omega, hc (k * 3 + 2) (by omega), Three_at2]

theorem name_at {s : ByteArray} {b : Bool} {w : World} (hs : s.size ≤ maxLen) (h : Nm.name s = b) : Calls Try.prog 32 #[.string s] w fun e w' => e = .returned (.bool b) ∧ w = w' := by
  subst h; exact name_any s w hs
theorem refName_at {s : ByteArray} {b : Bool} {w : World} (hs : s.size ≤ maxLen) (h : Nm.name s = b) : Calls Try.prog 30 #[.string s] w fun e w' => e = .returned (.bool b) ∧ w = w' := by
  subst h; exact refName_any s w hs

set_option maxHeartbeats 1000000 in
theorem dcheck_any (D : Option Addr) (n c : Nat) (C : Nat → ByteArray) (R A : Nat → Int) (w : World) (hn : n ≤ 9223372036854775807) (h : Cells w D (n * 3) (Three C R A)) (hC : ∀ i, i < n → (C i).size ≤ maxLen) :
    Calls Try.prog 27 #[.slice D n c] w fun e w' => e = .returned (.int .i64 (Db.chk C R A n)) ∧ Below w.heap.size w w' := by
  by_cases hb : 16 < n
  · have H := Lib.hid (Db.chk_big (C := C) (R := R) (A := A) hb)
    go_enter Try.func27, Try.ntmps27
    go_wp2
    go_ret
    exact ⟨ret_int H.out.symm, Below.refl _ _⟩
  · have H := Lib.hid (Db.chk_small (C := C) (R := R) (A := A) hb)
    go_enter Try.func27, Try.ntmps27
    go_wp2
    go_loopw [3, 11] (fun p i wr => ∃ k : Nat, k ≤ n ∧ i = .int .i64 k ∧ p = .int .i64 (Db.prev R k) ∧ Db.first C R A k = 0 ∧ Below w.heap.size w wr) (fun _ i _ => n - (intOf i).toNat)
    case atStart => exact ⟨0, Nat.zero_le _, rfl, rfl, rfl, Below.refl _ _⟩
    case round =>
      obtain ⟨k, hk, rfl, rfl, hall, hbw⟩ := hrel
      have Hall := Lib.hid hall
      clear hall
      by_cases hkn : k < n
      · obtain ⟨b, off, rfl, hlt, hc0, hc1, hc2⟩ := (h.below hbw).three hkn
        have hsz := hC k hkn
        have hb1 := hbw.alloc hbw.size (.cells #[.string (C k), .int .i64 (R k), .int .i64 (A k)] 40)
        cases hnm : Nm.name (C k) with
        | false =>
          have He := Lib.hid (Db.first_stop (R := R) (A := A) Hall.out (by rw [Db.derr_name hnm]; decide) hkn)
          have Hd := Lib.hid (Db.derr_name (R := R) (A := A) hnm)
          have Hnm := Lib.hid hnm
          clear hnm
          go_wp2_with fail
          refine (name_at hsz Hnm.out).mono ?_
          rintro e w' ⟨rfl, rfl⟩
          go_wp2
          go_ret
          exact ⟨ret_int (by rw [H.out, He.out, Hd.out]), hb1⟩
        | true =>
          have Hnm := Lib.hid hnm
          clear hnm
          by_cases hr : R k < Db.prev R k
          · have Hd := Lib.hid (Db.derr_rank (A := A) Hnm.out hr)
            have He := Lib.hid (Db.first_stop (R := R) (A := A) Hall.out (by rw [Hd.out]; decide) hkn)
            go_wp2_with fail
            refine (name_at hsz Hnm.out).mono ?_
            rintro e w' ⟨rfl, rfl⟩
            go_wp2
            go_ret
            exact ⟨ret_int (by rw [H.out, He.out, Hd.out]), hb1⟩
          · by_cases ha : A k < 1
            · have Hd := Lib.hid (Db.derr_amount (R := R) (A := A) Hnm.out (by omega) (.inl ha))
              have He := Lib.hid (Db.first_stop (R := R) (A := A) Hall.out (by rw [Hd.out]; decide) hkn)
              go_wp2_with fail
              refine (name_at hsz Hnm.out).mono ?_
              rintro e w' ⟨rfl, rfl⟩
              go_wp2
              go_ret
              exact ⟨ret_int (by rw [H.out, He.out, Hd.out]), hb1⟩
            · by_cases ha2 : 1000000000000 < A k
              · have Hd := Lib.hid (Db.derr_amount (R := R) (A := A) Hnm.out (by omega) (.inr ha2))
                have He := Lib.hid (Db.first_stop (R := R) (A := A) Hall.out (by rw [Hd.out]; decide) hkn)
                go_wp2_with fail
                refine (name_at hsz Hnm.out).mono ?_
                rintro e w' ⟨rfl, rfl⟩
                go_wp2
                go_ret
                exact ⟨ret_int (by rw [H.out, He.out, Hd.out]), hb1⟩
              · have Hd := Lib.hid (Db.derr_ok (R := R) (A := A) Hnm.out (by omega) (show 1 ≤ A k by omega) (by omega))
                have He := Lib.hid (Db.first_next Hall.out Hd.out)
                have Hp := Lib.hid (Db.prev_succ (R := R) k)
                go_wp2_with fail
                refine (name_at hsz Hnm.out).mono ?_
                rintro e w' ⟨rfl, rfl⟩
                go_wp2
                go_roundw
                case rel => exact ⟨k + 1, by omega, by go_num, by rw [Hp.out], He.out, hb1⟩
                case measure => simp [intOf]; omega
      · obtain rfl : k = n := by omega
        go_wp2
        go_ret
        exact ⟨ret_int (by rw [H.out, Hall.out]), hbw⟩

set_option maxHeartbeats 1000000 in
theorem refDcheck_any (D : Option Addr) (n c : Nat) (C : Nat → ByteArray) (R A : Nat → Int) (w : World) (hn : n ≤ 9223372036854775807) (h : Cells w D (n * 3) (Three C R A)) (hC : ∀ i, i < n → (C i).size ≤ maxLen) :
    Calls Try.prog 21 #[.slice D n c] w fun e w' => e = .returned (.int .i64 (Db.chk C R A n)) ∧ Below w.heap.size w w' := by
  by_cases hb : 16 < n
  · have H := Lib.hid (Db.chk_big (C := C) (R := R) (A := A) hb)
    go_enter Try.func21, Try.ntmps21
    go_wp2
    go_ret
    exact ⟨ret_int H.out.symm, Below.refl _ _⟩
  · have H := Lib.hid (Db.chk_small (C := C) (R := R) (A := A) hb)
    go_enter Try.func21, Try.ntmps21
    go_wp2
    go_loopw [3, 4] (fun p i wr => ∃ k : Nat, k ≤ n ∧ i = .int .i64 k ∧ p = .int .i64 (Db.prev R k) ∧ Db.first C R A k = 0 ∧ Below w.heap.size w wr) (fun _ i _ => n - (intOf i).toNat)
    case atStart => exact ⟨0, Nat.zero_le _, rfl, rfl, rfl, Below.refl _ _⟩
    case round =>
      obtain ⟨k, hk, rfl, rfl, hall, hbw⟩ := hrel
      have Hall := Lib.hid hall
      clear hall
      by_cases hkn : k < n
      · obtain ⟨b, off, rfl, hlt, hc0, hc1, hc2⟩ := (h.below hbw).three hkn
        have hsz := hC k hkn
        cases hnm : Nm.name (C k) with
        | false =>
          have He := Lib.hid (Db.first_stop (R := R) (A := A) Hall.out (by rw [Db.derr_name hnm]; decide) hkn)
          have Hd := Lib.hid (Db.derr_name (R := R) (A := A) hnm)
          have Hnm := Lib.hid hnm
          clear hnm
          go_wp2_with fail
          refine (refName_at hsz Hnm.out).mono ?_
          rintro e w' ⟨rfl, rfl⟩
          go_wp2
          go_ret
          exact ⟨ret_int (by rw [H.out, He.out, Hd.out]), hbw⟩
        | true =>
          have Hnm := Lib.hid hnm
          clear hnm
          by_cases hr : R k < Db.prev R k
          · have Hd := Lib.hid (Db.derr_rank (A := A) Hnm.out hr)
            have He := Lib.hid (Db.first_stop (R := R) (A := A) Hall.out (by rw [Hd.out]; decide) hkn)
            have d1 : decide (R k < Db.prev R k) = true := decide_eq_true hr
            go_wp2_with fail
            refine (refName_at hsz Hnm.out).mono ?_
            rintro e w' ⟨rfl, rfl⟩
            go_wp2
            go_ret
            exact ⟨ret_int (by rw [H.out, He.out, Hd.out]), hbw⟩
          · have d1 : decide (R k < Db.prev R k) = false := decide_eq_false hr
            by_cases ha : A k < 1
            · have Hd := Lib.hid (Db.derr_amount (R := R) (A := A) Hnm.out (by omega) (.inl ha))
              have He := Lib.hid (Db.first_stop (R := R) (A := A) Hall.out (by rw [Hd.out]; decide) hkn)
              have d2 : decide (A k < 1) = true := decide_eq_true ha
              go_wp2_with fail
              refine (refName_at hsz Hnm.out).mono ?_
              rintro e w' ⟨rfl, rfl⟩
              go_wp2
              go_ret
              exact ⟨ret_int (by rw [H.out, He.out, Hd.out]), hbw⟩
            · have d2 : decide (A k < 1) = false := decide_eq_false ha
              by_cases ha2 : 1000000000000 < A k
              · have Hd := Lib.hid (Db.derr_amount (R := R) (A := A) Hnm.out (by omega) (.inr ha2))
                have He := Lib.hid (Db.first_stop (R := R) (A := A) Hall.out (by rw [Hd.out]; decide) hkn)
                have d3 : decide (1000000000000 < A k) = true := decide_eq_true ha2
                go_wp2_with fail
                refine (refName_at hsz Hnm.out).mono ?_
                rintro e w' ⟨rfl, rfl⟩
                go_wp2
                go_ret
                exact ⟨ret_int (by rw [H.out, He.out, Hd.out]), hbw⟩
              · have Hd := Lib.hid (Db.derr_ok (R := R) (A := A) Hnm.out (by omega) (show 1 ≤ A k by omega) (by omega))
                have He := Lib.hid (Db.first_next Hall.out Hd.out)
                have Hp := Lib.hid (Db.prev_succ (R := R) k)
                have d3 : decide (1000000000000 < A k) = false := decide_eq_false ha2
                go_wp2_with fail
                refine (refName_at hsz Hnm.out).mono ?_
                rintro e w' ⟨rfl, rfl⟩
                go_wp2
                go_roundw
                case rel => exact ⟨k + 1, by omega, by go_num, by rw [Hp.out], He.out, hbw⟩
                case measure => simp [intOf]; omega
      · obtain rfl : k = n := by omega
        go_wp2
        go_ret
        exact ⟨ret_int (by rw [H.out, Hall.out]), hbw⟩
end Go.Proofs.Ytjifpiaianmmbaa
