/- The walk of the law ReplicaOnce. -/
import Derived.Test.YtdbpbpnbcjbchaaRepWorks2
set_option linter.unusedVariables false
namespace Go.Proofs.Ytdbpbpnbcjbchaa
open Go.RowKit
namespace Rp
theorem new_int (W : World) {x : Int} {n : Nat} (hx : x = (n : Int)) (h1 : 1 ≤ n) (h7 : n ≤ 7) :
    Calls Try.prog 10 #[.int .i64 x] W fun e w' => e = .returned (.tuple #[.pointer (some ⟨W.heap.size, 0, none⟩), .int .i64 0]) ∧ At W w' W.heap.size n st0 := by
  subst hx; exact new_at W h1 h7
theorem safe0 (n : Nat) : Safe n st0 0 := init n _ fun i _ => ⟨rfl, rfl, rfl⟩
theorem Str_pre {a b : List ByteArray} (h : a <+: b) : ∀ j, j < a.length → Str b j = .string (a.getD j ByteArray.empty) := fun j hj => by
  obtain ⟨t, rfl⟩ := h
  unfold Str
  rw [List.getD_eq_getElem?_getD, List.getD_eq_getElem?_getD, List.getElem?_append_left hj]
theorem Cells.less {w : World} {D : Option Addr} {m n : Nat} {G : Nat → Value} (h : Cells w D n G) (hm : m ≤ n) : Cells w D m G := fun h0 => by
  obtain ⟨b, off, e, hlt, hc⟩ := h (by omega)
  exact ⟨b, off, e, hlt, fun j hj => hc j (by omega)⟩
set_option maxHeartbeats 8000000 in
set_option maxRecDepth 100000 in
theorem once_u (W : World) {u : Nat} (hu : u < 256) {D : Option Addr} {m c : Nat} {R : Nat → Ac} (hm : m ≤ c) (hc : c ≤ maxLen) (hD : Cells W D (m * 4) (Four4 R)) (hs : ∀ i, i < m → (R i).t.size ≤ maxLen) :
    Calls Try.prog 4 #[.int .u8 (u : Int), .slice D m c] W fun e w' => e = .returned (.bool true) ∧ Below W.heap.size W w' := by
  unfold maxLen at hc
  have q1 : Int.tmod (u : Int) 7 = ((u % 7 : Nat) : Int) := by rw [Int.tmod_eq_emod_of_nonneg (by omega)]; omega
  obtain ⟨r, hr⟩ : ∃ r, r = u % 7 := ⟨_, rfl⟩
  rw [← hr] at q1
  have hr7 : r < 7 := by omega
  have q2 : IntKind.u8.wrap (r : Int) = (r : Int) := IntWalk.u8_in _ (by omega)
  have q3 : IntKind.i64.wrap (r : Int) = (r : Int) := IntWalk.i64_in _ (by omega)
  have q4 : IntKind.i64.wrap ((r : Int) + 1) = (r : Int) + 1 := IntWalk.i64_in _ (by omega)
  have HD := Lib.hid hD
  have HS := Lib.hid hs
  clear hD hs hr
  go_enter Try.func4, Try.ntmps4
  go_wp2_with fail
  refine (new_int W (n := r + 1) (by omega) (by omega) (by omega)).mono ?_
  rintro e w1 ⟨rfl, ha⟩
  have HA := Lib.hid ha
  clear ha
  go_wp2
  go_loopw [7, 8] (fun was i wr => ∃ (k e : Nat) (s : St), k ≤ m ∧ k ≤ 80 ∧ i = .int .i64 k ∧ Hid (At W wr W.heap.size (r + 1) s) ∧ Hid (Safe (r + 1) s e) ∧ Hid (Lim s k) ∧ Hid (wr.ownsRow W.heap.size 9 1 was s.done.length (row (s.done.length * 1) (Str s.done)))) (fun _ i _ => m - (intOf i).toNat)
  case atStart => exact ⟨0, 0, st0, Nat.zero_le _, Nat.zero_le _, rfl, HA, safe0 _, lim0, World.ownsRow_nil _ _ _ _⟩
  case round =>
    clear HA
    obtain ⟨k, e, s, hk, hk80, rfl, HA, HSF, HL, HO⟩ := hrel
    by_cases hkn : k < m ∧ k < 80
    · obtain ⟨hkm, hk8⟩ := hkn
      obtain ⟨b, off, rfl, hlt, p0, p1, p2, p3⟩ := Cells.acts (HD.out.below HA.out.below) hkm
      obtain ⟨a, hae⟩ : ∃ a, a = R k := ⟨_, rfl⟩
      have hsz := HS.out k hkm
      rw [← hae] at p0 p1 p2 p3 hsz
      have HSZ := Lib.hid hsz
      clear hae hsz
      have HSTP := Lib.hid (act_safe a HSF.out (by omega))
      go_wp2_with fail
      refine (do_any HA.out.obj HL.out (by omega) HSZ.out).mono ?_
      rintro e1 w2 ⟨rfl, hd⟩
      have HA2 := Lib.hid (HA.out.did hd)
      have HO2 := Lib.hid (Kp.own (B' := 0) HO.out hd.kp (by decide) (by decide))
      have HL2 := Lib.hid (lim_act (n := r + 1) (a := a) HL.out)
      obtain ⟨s2, hs2⟩ : ∃ s2, s2 = (actO (r + 1) s a).2.2 := ⟨_, rfl⟩
      obtain ⟨e2, _, hsf2, _⟩ := HSTP.out.safe
      have hgrow := HSTP.out.grow
      rw [← hs2] at HA2 HL2 hsf2 hgrow
      have HSF2 := Lib.hid hsf2
      have HGR := Lib.hid hgrow
      have hle : s.done.length ≤ s2.done.length := hgrow.length_le
      have hd24 : s2.done.length ≤ 1024 := by have := HL2.out.done; omega
      clear hd hs2 hsf2 hgrow HA HO p0 p1 p2 p3 hlt
      go_wp2_with fail
      refine (comm_obj HA2.out.obj hd24).mono ?_
      rintro e3 w3 ⟨v, rfl, hv, hb⟩
      have HA3 := Lib.hid (HA2.out.keep hb)
      have HO3 := Lib.hid (own_keep HO2.out hb)
      have HV := Lib.hid (own_base hv HA2.out.size)
      obtain ⟨Dv, cv, rfl, hcv⟩ := own_slice hv
      have HCV := Lib.hid (Cells.less (Cells.of_own hv) (show s.done.length * 1 ≤ s2.done.length * 1 by omega))
      obtain ⟨Dw, cw, hw, hcw⟩ := own_slice HO3.out
      subst hw
      have HCW := Lib.hid (Cells.of_own HO3.out)
      clear hv hb HA2 HO2
      have hdl : ((s2.done.length : Int) < (s.done.length : Int)) = False := eq_false (by omega)
      have hcs : s.done.length ≤ cv := by omega
      have hs24 : s.done.length ≤ 1024 := by omega
      have hc2 : s2.done.length ≤ cv := hcv
      go_wp2_with fail
      refine (same_yes hs24 HCV.out HCW.out (Str_pre HGR.out) (Str_pre (List.prefix_refl _))).mono ?_
      rintro e4 w4 ⟨rfl, hd4⟩
      have HA4 := Lib.hid (HA3.out.drawn hd4)
      obtain ⟨q, rfl⟩ := hd4
      have HV4 := Lib.hid (own_keep HV.out (below_drewN (Below.refl _ _) q))
      go_wp2
      go_roundw
      case rel => exact ⟨k + 1, e2, s2, by omega, by omega, by go_num, HA4, HSF2, HL2, HV4⟩
      case measure => simp [intOf] <;> omega
    · have hend : ¬ (k < m) ∨ (k < m ∧ ¬ (k < 80)) := by omega
      clear hkn
      rcases hend with hend | ⟨hend, h80⟩
      all_goals
        go_wp2_with fail
        refine (works51 _).mono ?_
        rintro e w9 ⟨rfl, hb9⟩
        have HB := Lib.hid (Below.on HA.out.below hb9)
        clear hb9
        go_wp2
        go_ret
        exact ⟨rfl, HB.out⟩
theorem u8_nat {x : Int} (h : (Lit.int .u8 x).wf = true) : ∃ u : Nat, x = (u : Int) ∧ u < 256 := by
  have := bounds_u8 h
  exact ⟨x.toNat, by omega, by omega⟩
end Rp
theorem replicaOnce_walk (W : World) (x : Int) (hx : (Lit.int .u8 x).wf = true) {D : Option Addr} {m c : Nat} {R : Nat → Ac} (hm : m ≤ c) (hc : c ≤ maxLen) (hD : Cells W D (m * 4) (Four4 R)) (hs : ∀ i, i < m → (R i).t.size ≤ maxLen) :
    Calls Try.prog 4 #[.int .u8 x, .slice D m c] W fun e w' => e = .returned (.bool true) ∧ Below W.heap.size W w' := by
  obtain ⟨u, rfl, hu⟩ := Rp.u8_nat hx
  exact Rp.once_u W hu hm hc hD hs
end Go.Proofs.Ytdbpbpnbcjbchaa
