/- The walk of the law ReplicaHalf. -/
import Derived.Test.YtdbpbpnbcjbchaaRepHalfP
set_option linter.unusedVariables false
namespace Go.Proofs.Ytdbpbpnbcjbchaa
open Go.RowKit
namespace Rp
theorem act_box {w : World} {q : Nat} {a : Ac} (h : Blk w q 38 #[.int .i64 a.k, .int .i64 a.x, .int .i64 a.y, .string a.t]) :
    w.cell? ⟨q, 0, none⟩ = some (.int .i64 a.k) ∧ w.cell? ⟨q, 1, none⟩ = some (.int .i64 a.x) ∧ w.cell? ⟨q, 2, none⟩ = some (.int .i64 a.y) ∧ w.cell? ⟨q, 3, none⟩ = some (.string a.t) := ⟨h.cell 0, h.cell 1, h.cell 2, h.cell 3⟩
set_option maxHeartbeats 8000000 in
set_option maxRecDepth 100000 in
theorem half_u (W : World) {u : Nat} (hu : u < 256) {D : Option Addr} {m c : Nat} {R : Nat → Ac} (hm : m ≤ c) (hc : c ≤ maxLen) (hD : Cells W D (m * 4) (Four4 R)) (hs : ∀ i, i < m → (R i).t.size ≤ maxLen) :
    Calls Try.prog 5 #[.int .u8 (u : Int), .slice D m c] W fun e w' => e = .returned (.bool true) ∧ Below W.heap.size W w' := by
  unfold maxLen at hc
  have q1 : Int.tmod (u : Int) 6 = ((u % 6 : Nat) : Int) := by rw [Int.tmod_eq_emod_of_nonneg (by omega)]; omega
  obtain ⟨r, hr⟩ : ∃ r, r = u % 6 := ⟨_, rfl⟩
  rw [← hr] at q1
  have hr6 : r < 6 := by omega
  have q2 : IntKind.u8.wrap (r : Int) = (r : Int) := IntWalk.u8_in _ (by omega)
  have q3 : IntKind.i64.wrap (r : Int) = (r : Int) := IntWalk.i64_in _ (by omega)
  have q4 : IntKind.i64.wrap ((r : Int) + 2) = (r : Int) + 2 := IntWalk.i64_in _ (by omega)
  have HD := Lib.hid hD
  have HS := Lib.hid hs
  have H0 := Lib.hid (fst0 (n := r + 2) (by omega))
  clear hD hs hr
  go_enter Try.func5, Try.ntmps5
  go_wp2_with fail
  refine (new_int W (n := r + 2) (by omega) (by omega) (by omega)).mono ?_
  rintro e w1 ⟨rfl, ha⟩
  have HA := Lib.hid ha
  clear ha
  go_wp2_with fail
  refine (lead_at (z := 0) HA.out.obj lim0 (by omega) H0.out.1 rfl).mono ?_
  rintro e w2 ⟨rfl, hd⟩
  have HA2 := Lib.hid (HA.out.did hd)
  have HL2 := Lib.hid (show Lim (leadO (r + 2) st0 0).2 1 from lim_of (n := r + 2) (a := ⟨0, 0, 0, ea⟩) lim0 rfl)
  clear hd HA
  go_wp2
  go_loopw [8] (fun i wr => ∃ (k : Nat) (s : St), 2 * k ≤ r + 3 ∧ i = .int .i64 k ∧ Hid (At W wr W.heap.size (r + 2) s) ∧ Hid (Lim s (k + 1)) ∧ Hid (Cutn (r + 2) s k)) (fun i _ => 20 - (intOf i).toNat)
  case atStart => exact ⟨0, _, by omega, rfl, HA2, HL2, ⟨H0.out.2.one, fun k => by rw [H0.out.2.cut]; simp⟩⟩
  case round =>
    clear HA2 HL2 H0
    obtain ⟨k, s, hk, rfl, HA, HL, HC⟩ := hrel
    have hw2 : IntKind.i64.wrap (2 * (k : Int)) = 2 * (k : Int) := IntWalk.i64_in _ (by omega)
    by_cases hkn : 2 * k < r + 2
    · have hkn' : 2 * (k : Int) < (r : Int) + 2 := by omega
      have HN := Lib.hid (cut_next HC.out (by omega))
      go_wp2_with fail
      refine (cut_at (z := 0) HA.out.obj HN.out.1 rfl).mono ?_
      rintro e w3 ⟨rfl, hd⟩
      have HA3 := Lib.hid (HA.out.did hd)
      have HL3 := Lib.hid (show Lim (cutO (r + 2) s (k : Int)).2 (k + 1 + 1) from lim_of (n := r + 2) (a := ⟨5, (k : Int), 0, ea⟩) HL.out rfl)
      clear hd
      go_wp2
      go_roundw
      case rel => exact ⟨k + 1, _, by omega, by go_num, HA3, HL3, HN.out.2⟩
      case measure => simp [intOf]; omega
    · have hkn' : ¬ 2 * (k : Int) < (r : Int) + 2 := by omega
      have HH := Lib.hid (HC.out.half (by omega))
      obtain ⟨wo, rfl⟩ : ∃ wo : World, wo = wr := ⟨_, rfl⟩
      have HA1 := HA
      clear HA HC
      go_wp2
      go_loopw [9] (fun i wq => ∃ (j : Nat) (s1 : St), j ≤ m ∧ j ≤ 30 ∧ i = .int .i64 j ∧ Hid (At W wq W.heap.size (r + 2) s1) ∧ Hid (Lim s1 (k + 1 + j)) ∧ Hid (Hf (r + 2) s1)) (fun i _ => m - (intOf i).toNat)
      case atStart => exact ⟨0, s, Nat.zero_le _, Nat.zero_le _, rfl, HA1, HL, HH⟩
      case round =>
        clear HA1 HH HL
        obtain ⟨j, s1, hj, hj30, rfl, HA, HL, HH⟩ := hrel
        by_cases hjn : j < m ∧ j < 30
        · obtain ⟨hjm, hj3⟩ := hjn
          obtain ⟨b, off, rfl, hlt, p0, p1, p2, p3⟩ := Cells.acts (HD.out.below HA.out.below) hjm
          obtain ⟨a, hae⟩ : ∃ a, a = R j := ⟨_, rfl⟩
          have hsz := HS.out j hjm
          rw [← hae] at p0 p1 p2 p3 hsz
          have HSZ := Lib.hid hsz
          have hal := (Below.refl wr.heap.size wr).alloc (Nat.le_refl _) (.cells #[.int .i64 a.k, .int .i64 a.x, .int .i64 a.y, .string a.t] 38)
          have HAL := Lib.hid (HA.out.keep hal)
          have HX := Lib.hid (Blk.new wr 38 #[.int .i64 a.k, .int .i64 a.x, .int .i64 a.y, .string a.t])
          clear hae hsz hal
          by_cases kn : a.k < 0
          · go_wp2
            go_roundw
            case rel => exact ⟨j + 1, s1, by omega, by omega, by go_num, HAL, HL.out.mono (by omega), HH⟩
            case measure => simp [intOf] <;> omega
          · by_cases kp : 2 < a.k
            · go_wp2
              go_roundw
              case rel => exact ⟨j + 1, s1, by omega, by omega, by go_num, HAL, HL.out.mono (by omega), HH⟩
              case measure => simp [intOf] <;> omega
            · have HST := Lib.hid (half_act a HH.out (by omega) (by omega) ⟨by omega, by omega⟩)
              go_wp2_with fail
              refine (do_any HAL.out.obj HL.out (by omega) HSZ.out).mono ?_
              rintro e1 w3 ⟨rfl, hd⟩
              have HA3 := Lib.hid (HAL.out.did hd)
              obtain ⟨z0, _, _, _⟩ := act_box (Kp.blk HX.out hd.kp (by decide) (by decide))
              have HL3 := Lib.hid (lim_act (n := r + 2) (a := a) HL.out)
              obtain ⟨y, hy⟩ : ∃ y, y = (actO (r + 2) s1 a).2.1 := ⟨_, rfl⟩
              obtain ⟨s3, hs3⟩ : ∃ s3, s3 = (actO (r + 2) s1 a).2.2 := ⟨_, rfl⟩
              rw [← hs3] at HA3 HL3
              rw [← hs3, ← hy] at HST
              rw [← hy]
              have hdn := HST.out.1.one.done
              have hdl : s3.done.length = 0 := by rw [hdn]; rfl
              clear hd hs3 hy hdn p0 p1 p2 p3
              by_cases k0 : a.k = 0
              · have hyn := HST.out.2 k0
                have d0 : (a.k == 0) = true := by simp [k0]
                have dy : ((y : Int) == 0) = false := by simp; exact hyn
                clear k0 kn kp
                go_wp2_with fail
                refine (comm_obj HA3.out.obj (by omega)).mono ?_
                rintro e3 w4 ⟨v, rfl, hv, hb⟩
                obtain ⟨D4, c4, rfl, _⟩ := own_slice hv
                have HA4 := Lib.hid (HA3.out.keep hb)
                rw [hdl]
                clear hv hb
                go_wp2
                go_roundw
                case rel => exact ⟨j + 1, s3, by omega, by omega, by go_num, HA4, HL3.out.mono (by omega), HST.out.1⟩
                case measure => simp [intOf] <;> omega
              · have d0 : (a.k == 0) = false := by simp [k0]
                clear k0 kn kp
                go_wp2_with fail
                refine (comm_obj HA3.out.obj (by omega)).mono ?_
                rintro e3 w4 ⟨v, rfl, hv, hb⟩
                obtain ⟨D4, c4, rfl, _⟩ := own_slice hv
                have HA4 := Lib.hid (HA3.out.keep hb)
                rw [hdl]
                clear hv hb
                go_wp2
                go_roundw
                case rel => exact ⟨j + 1, s3, by omega, by omega, by go_num, HA4, HL3.out.mono (by omega), HST.out.1⟩
                case measure => simp [intOf] <;> omega
        · have hend : ¬ (j < m) ∨ (j < m ∧ ¬ (j < 30)) := by omega
          clear hjn
          rcases hend with hend | ⟨hend, h30⟩
          all_goals
            go_wp2_with fail
            refine (works51 _).mono ?_
            rintro e w9 ⟨rfl, hb9⟩
            have HB := Lib.hid (Below.on HA.out.below hb9)
            clear hb9
            go_wp2
            go_ret
            exact ⟨rfl, HB.out⟩
end Rp
theorem replicaHalf_walk (W : World) (x : Int) (hx : (Lit.int .u8 x).wf = true) {D : Option Addr} {m c : Nat} {R : Nat → Ac} (hm : m ≤ c) (hc : c ≤ maxLen) (hD : Cells W D (m * 4) (Four4 R)) (hs : ∀ i, i < m → (R i).t.size ≤ maxLen) :
    Calls Try.prog 5 #[.int .u8 x, .slice D m c] W fun e w' => e = .returned (.bool true) ∧ Below W.heap.size W w' := by
  obtain ⟨u, rfl, hu⟩ := Rp.u8_nat hx
  exact Rp.half_u W hu hm hc hD hs
end Go.Proofs.Ytdbpbpnbcjbchaa
