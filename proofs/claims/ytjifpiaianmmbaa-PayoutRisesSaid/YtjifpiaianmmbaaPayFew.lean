/- The walk of the law's own 'few': at most 20 debts, with creditors of at most 40 bytes. -/
import Derived.Test.YtjifpiaianmmbaaPayWorks
import Derived.Deep.RegionHeld3
set_option linter.unusedVariables false
namespace Go.Proofs.Ytjifpiaianmmbaa
open Go.RowKit

/-- A text cut at 40 bytes. -/
def cut40 (s : ByteArray) : ByteArray := s.extract 0 (min s.size 40)
theorem cut40_size (s : ByteArray) : (cut40 s).size ≤ maxLen := by
  unfold cut40 maxLen
  rw [ByteArray.size_extract]; omega
theorem cut40_all {s : ByteArray} (h : s.size ≤ 40) : cut40 s = s := by
  unfold cut40
  rw [Nat.min_eq_left h]
  exact ByteArray.extract_zero_size
theorem run_cut_40 (s : ByteArray) (h : 40 ≤ s.size) (w : World) : (Instr.slice 9 (.string s) none (some (.int .i64 40)) none).run Try.prog w = .ok (.string (cut40 s)) w := by
  have h1 := run_slice_string_h (P := Try.prog) w 9 s Try.underlying9 .i64 40 (by omega) (by omega)
  rw [h1]
  unfold cut40
  rw [Nat.min_eq_right h]; rfl

set_option maxHeartbeats 1000000 in
set_option maxRecDepth 100000 in
theorem few_any {D : Option Addr} {n c : Nat} {C : Nat → ByteArray} {R A : Nat → Int} {w : World} (hn : n ≤ 9223372036854775807) (h : Cells w D (n * 3) (Three C R A)) (hC : ∀ i, i < n → (C i).size ≤ maxLen) :
    Calls Try.prog 9 #[.slice D n c] w fun e w' => ∃ D' c' m, e = .returned (.slice D' m c') ∧ m = min n 20 ∧ Cells w' D' (m * 3) (Three (fun i => cut40 (C i)) R A) ∧ Below w.heap.size w w' := by
  obtain ⟨i0, hi, hz0, hz1, hz2⟩ := info_parts Try.infoDebt
  go_enter Try.func9, Try.ntmps9
  go_wp2
  go_loopw [3, 4] (fun v i wr => ∃ k : Nat, k ≤ n ∧ k ≤ 20 ∧ i = .int .i64 k ∧ wr.ownsRow w.heap.size 40 3 v k (row (k * 3) (Three (fun i => cut40 (C i)) R A)) ∧ Below w.heap.size w wr) (fun _ i _ => n - (intOf i).toNat)
  case atStart => exact ⟨0, Nat.zero_le _, by omega, rfl, World.ownsRow_nil _ _ _ _, Below.refl _ _⟩
  case round =>
    obtain ⟨k, hk, hk20, rfl, hown, hbw⟩ := hrel
    have hszr := hbw.size
    by_cases hkn : k < n ∧ k < 20
    · obtain ⟨hkn, hk2⟩ := hkn
      obtain ⟨b, off, rfl, hlt, q0, q1, q2⟩ := h.three hkn
      have hc0 := (hbw.cell (p := ⟨b, off + k * 3, none⟩) hlt).trans q0
      have hc1 := (hbw.cell (p := ⟨b, off + k * 3 + 1, none⟩) hlt).trans q1
      have hc2 := (hbw.cell (p := ⟨b, off + k * 3 + 2, none⟩) hlt).trans q2
      have hsC := hC k hkn
      unfold maxLen at hsC
      clear q0 q1 q2
      have HO := Lib.hid hown
      have HB := Lib.hid hbw
      clear hown hbw
      have hki0 : (0 : Int) ≤ (k : Int) := by omega
      have hki1 : (k : Int) < (n : Int) := by omega
      by_cases hs : (C k).size ≤ 40
      · have hsi : ((C k).size : Int) ≤ 40 := by omega
        have hzs0 : (0 : Int) ≤ ((C k).size : Int) := by omega
        have hzs1 : ((C k).size : Int) ≤ ((C k).size : Int) := by omega
        have Hcut := Lib.hid (cut40_all hs)
        go_wp2
        have hex : (C k).extract 0 (C k).size = C k := ByteArray.extract_zero_size
        have hsn : ((40 : Int) < ((C k).size : Int)) = False := eq_false (by omega)
        have hsm : ∀ w, (Builtin.min_ #[3, 3] 3 #[.int .i64 ((C k).size : Int), .int .i64 40]).run Try.prog w = .ok (.int .i64 ((C k).size : Int)) w := fun w => by rw [run_min_int2, if_neg (by omega)]
        go_region_held3 (fun w' => w'.cell? ⟨b, off + k * 3, none⟩ = some (.string (C k)) ∧ w'.cell? ⟨b, off + k * 3 + 1, none⟩ = some (.int .i64 (R k)) ∧ w'.cell? ⟨b, off + k * 3 + 2, none⟩ = some (.int .i64 (A k)))
          (first
            | go_keep
            | (go_split_ands
               refine ⟨?_, ?_, ?_⟩
               · (rw [hgrow.cell_far _ (by simp; omega) (own_off HO.out (by omega))]; assumption)
               · (rw [hgrow.cell_far _ (by simp; omega) (own_off HO.out (by omega))]; assumption)
               · (rw [hgrow.cell_far _ (by simp; omega) (own_off HO.out (by omega))]; assumption)))
          ((refine step_append_lies _ (by rfl) _ _ _ (by rfl) w.heap.size 40 i0 _ 3 32 Try.underlying23 hi hz0 hz1 hz2 rfl (by omega) _ k (row (k * 3) (Three (fun i => cut40 (C i)) R A)) (by rfl) (own_keep HO.out ((below_drewN (Below.refl wr.heap.size wr) _).alloc (Nat.le_refl _) _))
              ⟨wr.heap.size, 0, none⟩ 1 1 [.string (C k), .int .i64 (R k), .int .i64 (A k)] (by rfl) (by rfl) (fun j u hu => new_cell rfl (by simpa using hu)) (by simp [Value.oneCell'])
              (by omega) (by unfold maxLen; omega) (by omega) (by simp; omega) (wr.heap.size + 1) (by simp) ?_; intro gg cap w3 hown' hgrow hat hlt3))
        have hb3 := own_below ((below_drewN HB.out _).alloc hszr _) (own_keep HO.out ((below_drewN (Below.refl wr.heap.size wr) _).alloc (Nat.le_refl _) _)) (by simp; omega) hgrow
        have hown3 : w3.ownsRow w.heap.size 40 3 (.slice (some ⟨gg, 0, none⟩) (k + 1) cap) (k + 1) (row ((k + 1) * 3) (Three (fun i => cut40 (C i)) R A)) := by
          rw [show (k + 1) * 3 = k * 3 + 3 by omega, row_three, Three_at0, Three_at1, Three_at2, Hcut.out]
          exact hown'
        clear hown' hgrow hat hlt3 HO HB
        go_wp2
        go_roundw
        case rel => exact ⟨k + 1, by omega, by omega, by go_num, hown3, hb3⟩
        case measure => simp [intOf]; omega
      · have hs2 : 40 < (C k).size := by omega
        have hsi : (40 : Int) < ((C k).size : Int) := by omega
        have hsl := run_cut_40 (C k) (by omega)
        go_wp2
        go_region_held3 (fun w' => w'.cell? ⟨b, off + k * 3, none⟩ = some (.string (C k)) ∧ w'.cell? ⟨b, off + k * 3 + 1, none⟩ = some (.int .i64 (R k)) ∧ w'.cell? ⟨b, off + k * 3 + 2, none⟩ = some (.int .i64 (A k)))
          (first
            | go_keep
            | (go_split_ands
               refine ⟨?_, ?_, ?_⟩
               · (rw [hgrow.cell_far _ (by simp; omega) (own_off HO.out (by omega))]; assumption)
               · (rw [hgrow.cell_far _ (by simp; omega) (own_off HO.out (by omega))]; assumption)
               · (rw [hgrow.cell_far _ (by simp; omega) (own_off HO.out (by omega))]; assumption)))
          ((refine step_append_lies _ (by rfl) _ _ _ (by rfl) w.heap.size 40 i0 _ 3 32 Try.underlying23 hi hz0 hz1 hz2 rfl (by omega) _ k (row (k * 3) (Three (fun i => cut40 (C i)) R A)) (by rfl) (own_keep HO.out ((below_drewN (Below.refl wr.heap.size wr) _).alloc (Nat.le_refl _) _))
              ⟨wr.heap.size, 0, none⟩ 1 1 [.string (cut40 (C k)), .int .i64 (R k), .int .i64 (A k)] (by rfl) (by rfl) (fun j u hu => new_cell rfl (by simpa using hu)) (by simp [Value.oneCell'])
              (by omega) (by unfold maxLen; omega) (by omega) (by simp; omega) (wr.heap.size + 1) (by simp) ?_; intro gg cap w3 hown' hgrow hat hlt3))
        have hb3 := own_below ((below_drewN HB.out _).alloc hszr _) (own_keep HO.out ((below_drewN (Below.refl wr.heap.size wr) _).alloc (Nat.le_refl _) _)) (by simp; omega) hgrow
        have hown3 : w3.ownsRow w.heap.size 40 3 (.slice (some ⟨gg, 0, none⟩) (k + 1) cap) (k + 1) (row ((k + 1) * 3) (Three (fun i => cut40 (C i)) R A)) := by
          rw [show (k + 1) * 3 = k * 3 + 3 by omega, row_three, Three_at0, Three_at1, Three_at2]
          exact hown'
        clear hown' hgrow hat hlt3 HO HB
        go_wp2
        go_roundw
        case rel => exact ⟨k + 1, by omega, by omega, by go_num, hown3, hb3⟩
        case measure => simp [intOf]; omega
    · have hkm : k = min n 20 := by omega
      have HKM := Lib.hid hkm
      clear hkm
      obtain ⟨D', c', rfl, _⟩ := own_slice hown
      have HC := Lib.hid (Cells.of_own hown)
      have HB := Lib.hid hbw
      clear hown hbw
      by_cases h1 : k < n
      · have h2 : ¬ k < 20 := by omega
        clear hkn
        go_wp2
        go_ret
        exact ⟨D', c', k, rfl, HKM.out, HC.out, HB.out⟩
      · clear hkn
        go_wp2
        go_ret
        exact ⟨D', c', k, rfl, HKM.out, HC.out, HB.out⟩
end Go.Proofs.Ytjifpiaianmmbaa
