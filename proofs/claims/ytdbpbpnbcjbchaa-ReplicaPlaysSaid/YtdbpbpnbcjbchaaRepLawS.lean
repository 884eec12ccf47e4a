/- The walk of the law ReplicaStale. -/
import Derived.Test.YtdbpbpnbcjbchaaRepPlain2
import Derived.Deep.DeepCutAuto
set_option linter.unusedVariables false
namespace Go.Proofs.Ytdbpbpnbcjbchaa
open Go.RowKit
namespace Rp
theorem lt1 : Lim t1 1 := lim_of (n := 3) (a := ⟨0, 0, 0, ea⟩) lim0 rfl
theorem lt2 : Lim t2 2 := lim_of (n := 3) (a := ⟨5, 0, 0, ea⟩) lt1 rfl
theorem lt3 : Lim t3 3 := lim_of (n := 3) (a := ⟨0, 1, 0, ea⟩) lt2 rfl
theorem lt4 (o : ByteArray) : Lim (t4 o) 4 := lt3.pushed
theorem lt5 (o f : ByteArray) : Lim (t5 o f) 5 := (lt4 o).pushed
theorem lt6 (o f : ByteArray) : Lim (t6 o f) 6 := lim_of (n := 3) (a := ⟨6, 0, 0, ea⟩) (lt5 o f) rfl
theorem lt8 (o f : ByteArray) : Lim (t8 o f) 6 := by
  have h := (lt6 o f).copied (i := 1) (j := 0)
  exact ⟨h.log, h.ep, by show 1 ≤ 6; omega⟩
theorem Tx1 (f : ByteArray) : ∀ j, j < 1 → Tx [(2, f)] j = .string f := fun j hj => by
  obtain rfl : j = 0 := by omega
  rfl
theorem Str1 (f : ByteArray) : ∀ j, j < 1 → Str [f] j = .string f := fun j hj => by
  obtain rfl : j = 0 := by omega
  rfl
theorem Cells.fresh1 (w : World) (v : Value) (t : TypeId) : Cells (w.alloc (.cells #[v] t)) (some ⟨w.heap.size, 0, none⟩) (1 * 1) (fun _ => v) := fun _ =>
  ⟨w.heap.size, 0, rfl, by simp, fun j hj => by
    obtain rfl : j = 0 := by omega
    rw [World.cell?_alloc_at _ _ _ _ rfl]; rfl⟩
theorem epoch_at {B : Nat} {w : World} {h n : Nat} {s : St} {z : Int} (o : Obj B w h n s) {i : Nat} (hi : i < n) (hz : ((s.nd i).ep : Int) = z) :
    Calls Try.prog 20 #[.pointer (some ⟨h, 0, none⟩), .int .i64 (i : Int)] w fun e w' => e = .returned (.int .i64 z) ∧ w = w' := by
  subst hz; exact epoch_obj o hi
set_option maxHeartbeats 8000000 in
set_option maxRecDepth 100000 in
theorem stale_any (W : World) (o f : ByteArray) (ho : o.size ≤ maxLen) (hf : f.size ≤ maxLen) :
    Calls Try.prog 6 #[.string o, .string f] W fun e w' => e = .returned (.bool true) ∧ Below W.heap.size W w' := by
  unfold maxLen at ho hf
  go_enter Try.func6, Try.ntmps6
  go_upto_region 1 with (fail)
  go_cut [0, 1] (fun a b wx => a = .string (cut20 o) ∧ b = .string (cut20 f) ∧ Hid (Dn W wx))
  case first =>
    by_cases h1 : o.size ≤ 20
    · have hc1 := cut20_all h1
      have hs1 : ((20 : Int) < (o.size : Int)) = False := eq_false (by omega)
      have hx1 : o.extract 0 o.size = o := ByteArray.extract_zero_size
      by_cases h2 : f.size ≤ 20
      · have hc2 := cut20_all h2
        have hs2 : ((20 : Int) < (f.size : Int)) = False := eq_false (by omega)
        have hx2 : f.extract 0 f.size = f := ByteArray.extract_zero_size
        have HF := Lib.hid (And.intro hc1 hc2)
        clear hc1 hc2
        go_quiet (fail)
        go_wp2_with fail
        go_meet
        case rel => exact ⟨by rw [HF.out.1], by rw [HF.out.2], ⟨_, rfl⟩⟩
      · have hc2 : cut20 f = f.extract 0 20 := by unfold cut20; rw [Nat.min_eq_right (by omega)]
        have hs2 : ((20 : Int) < (f.size : Int)) := by omega
        have HF := Lib.hid (And.intro hc1 hc2)
        clear hc1 hc2
        go_quiet (fail)
        go_wp2_with fail
        go_meet
        case rel => exact ⟨by rw [HF.out.1], by rw [HF.out.2], ⟨_, rfl⟩⟩
    · have hc1 : cut20 o = o.extract 0 20 := by unfold cut20; rw [Nat.min_eq_right (by omega)]
      have hs1 : ((20 : Int) < (o.size : Int)) := by omega
      by_cases h2 : f.size ≤ 20
      · have hc2 := cut20_all h2
        have hs2 : ((20 : Int) < (f.size : Int)) = False := eq_false (by omega)
        have hx2 : f.extract 0 f.size = f := ByteArray.extract_zero_size
        have HF := Lib.hid (And.intro hc1 hc2)
        clear hc1 hc2
        go_quiet (fail)
        go_wp2_with fail
        go_meet
        case rel => exact ⟨by rw [HF.out.1], by rw [HF.out.2], ⟨_, rfl⟩⟩
      · have hc2 : cut20 f = f.extract 0 20 := by unfold cut20; rw [Nat.min_eq_right (by omega)]
        have hs2 : ((20 : Int) < (f.size : Int)) := by omega
        have HF := Lib.hid (And.intro hc1 hc2)
        clear hc1 hc2
        go_quiet (fail)
        go_wp2_with fail
        go_meet
        case rel => exact ⟨by rw [HF.out.1], by rw [HF.out.2], ⟨_, rfl⟩⟩
  case rest =>
    obtain ⟨rfl, rfl, HDN⟩ := hcut
    have so := cut20_size o
    have sf := cut20_size f
    generalize cut20 o = o at so
    generalize cut20 f = f at sf
    have HSO := Lib.hid so
    have HSF := Lib.hid sf
    clear so sf ho hf
    have HW : Hid (Below W.heap.size W wc) := by
      obtain ⟨q, hq⟩ := HDN.out
      rw [hq]; exact below_drewN (Below.refl _ _) q
    clear HDN
    go_wp2_with fail
    refine (new_at wc (n := 3) (by omega) (by omega)).mono ?_
    rintro e w1 ⟨rfl, ha⟩
    have HA := Lib.hid ha
    clear ha
    go_wp2_with fail
    refine (lead_at (z := 0) (s' := t1) HA.out.obj lim0 (by omega) (by rw [t1_y]; rfl) rfl).mono ?_
    rintro e w2 ⟨rfl, hd⟩
    replace HA := Lib.hid (HA.out.did hd)
    clear hd
    go_wp2_with fail
    refine (cut_at (z := 0) (s' := t2) HA.out.obj (by rw [t2_y]; rfl) rfl).mono ?_
    rintro e w2 ⟨rfl, hd⟩
    replace HA := Lib.hid (HA.out.did hd)
    clear hd
    go_wp2_with fail
    refine (lead_at (z := 0) (s' := t3) HA.out.obj lt2 (by omega) (by rw [t3_y]; rfl) rfl).mono ?_
    rintro e w2 ⟨rfl, hd⟩
    replace HA := Lib.hid (HA.out.did hd)
    clear hd
    go_wp2_with fail
    refine (prop_at (r := 1) (z := 0) (s' := t4 o) HA.out.obj lt3 (by omega) HSO.out (by rw [t4_is]; rfl) (by rw [t4_is]; rfl) (by rw [t4_is])).mono ?_
    rintro e w2 ⟨rfl, hd⟩
    replace HA := Lib.hid (HA.out.did hd)
    clear hd
    go_wp2_with fail
    refine (prop_at (r := 1) (z := 0) (s' := t5 o f) HA.out.obj (lt4 o) (by omega) HSF.out (by rw [t5_is]; rfl) (by rw [t5_is]; rfl) (by rw [t5_is])).mono ?_
    rintro e w2 ⟨rfl, hd⟩
    replace HA := Lib.hid (HA.out.did hd)
    clear hd
    go_wp2_with fail
    refine (copy_at (z := 25) (s' := t5 o f) HA.out.obj (by rw [(t5_e1 o f).1]; rfl) (t5_e1 o f).2).mono ?_
    rintro e w2 ⟨rfl, hd⟩
    replace HA := Lib.hid (HA.out.did hd)
    clear hd
    go_wp2_with fail
    refine (join_at (z := 0) (s' := t6 o f) HA.out.obj (by rw [t6_y]; rfl) rfl).mono ?_
    rintro e w2 ⟨rfl, hd⟩
    replace HA := Lib.hid (HA.out.did hd)
    clear hd
    go_wp2_with fail
    refine (copy_at (z := 26) (s' := t6 o f) HA.out.obj (by rw [(t6_e o f).1]; rfl) (t6_e o f).2).mono ?_
    rintro e w2 ⟨rfl, hd⟩
    replace HA := Lib.hid (HA.out.did hd)
    clear hd
    go_wp2_with fail
    refine (comm_obj HA.out.obj (by show 0 ≤ 1024; omega)).mono ?_
    rintro e w2 ⟨v, rfl, hv, hb⟩
    obtain ⟨D, c, rfl, _⟩ := own_slice hv
    have hl0 : (t6 o f).done.length = 0 := rfl
    rw [hl0]
    replace HA := Lib.hid (HA.out.keep hb)
    clear hv hb hl0
    go_wp2_with fail
    refine (copy_at (z := 0) (s' := t8 o f) HA.out.obj (by rw [t8_is]; rfl) (by rw [t8_is])).mono ?_
    rintro e w2 ⟨rfl, hd⟩
    replace HA := Lib.hid (HA.out.did hd)
    clear hd
    go_wp2_with fail
    refine (epoch_at (z := 2) HA.out.obj (i := 0) (by omega) (by rw [t8_ep]; rfl)).mono ?_
    rintro e w2 ⟨rfl, rfl⟩
    go_wp2_with fail
    refine (prop_at (r := 0) (z := 8) (s' := t8 o f) HA.out.obj (lt8 o f) (by omega) HSO.out rfl (by rw [(t8_no o f).1]; rfl) (t8_no o f).2).mono ?_
    rintro e w2 ⟨rfl, hd⟩
    replace HA := Lib.hid (HA.out.did hd)
    clear hd
    go_wp2_with fail
    refine (log_obj (i := 0) HA.out.obj (by omega)).mono ?_
    rintro e w3 ⟨v, rfl, hv, hb⟩
    obtain ⟨D, c, rfl, _⟩ := own_slice hv
    rw [t8_log] at hv
    have hl1 : (List.length [(2, f)] : Nat) = 1 := rfl
    have HV := Lib.hid (Cells.of_own hv)
    have HV2 : Hid (Cells w3 D (1 * 1) (Tx [(2, f)])) := HV.out
    replace HA := Lib.hid (HA.out.keep hb)
    clear hv hb HV
    have HN3 := Lib.hid (Cells.fresh1 w3 (.string f) 9)
    have HV3 := Lib.hid (HV2.out.below ((Below.refl w3.heap.size w3).alloc (Nat.le_refl _) (.cells #[.string f] 9)) )
    replace HA := Lib.hid (HA.out.keep ((Below.refl w3.heap.size w3).alloc (Nat.le_refl _) (.cells #[.string f] 9)))
    clear HV2 hl1
    rw [t8_log]
    go_wp2_with fail
    refine (same_yes (n := 1) (f := fun _ => f) (by omega) HV3.out HN3.out (Tx1 f) (fun j hj => rfl)).mono ?_
    rintro e w4 ⟨rfl, hd4⟩
    replace HA := Lib.hid (HA.out.drawn hd4)
    clear hd4 HV3 HN3
    go_wp2_with fail
    refine (comm_obj HA.out.obj (by show 1 ≤ 1024; omega)).mono ?_
    rintro e w5 ⟨v, rfl, hv, hb⟩
    obtain ⟨D5, c5, rfl, _⟩ := own_slice hv
    have HV5 : Hid (Cells w5 D5 (1 * 1) (Str [f])) := Cells.of_own hv
    have HN5 := Lib.hid (Cells.fresh1 w5 (.string f) 9)
    have HV6 := Lib.hid (HV5.out.below ((Below.refl w5.heap.size w5).alloc (Nat.le_refl _) (.cells #[.string f] 9)))
    replace HA := Lib.hid ((HA.out.keep hb).keep ((Below.refl w5.heap.size w5).alloc (Nat.le_refl _) (.cells #[.string f] 9)))
    have hl1 : (t8 o f).done.length = 1 := rfl
    rw [hl1]
    clear hv hb HV5 hl1
    go_wp2_with fail
    refine (same_yes (n := 1) (f := fun _ => f) (by omega) HV6.out HN5.out (Str1 f) (fun j hj => rfl)).mono ?_
    rintro e w6 ⟨rfl, hd6⟩
    replace HA := Lib.hid (HA.out.drawn hd6)
    clear hd6 HV6 HN5
    go_wp2_with fail
    refine (works51 _).mono ?_
    rintro e w7 ⟨rfl, hb7⟩
    have HB := Lib.hid (Below.on (HW.out.trans (HA.out.below.mono HW.out.size)) hb7)
    clear hb7
    go_wp2
    go_ret
    exact ⟨rfl, HB.out⟩
end Rp
theorem replicaStale_walk (W : World) (o : ByteArray) (ho : o.size ≤ maxLen) (f : ByteArray) (hf : f.size ≤ maxLen) :
    Calls Try.prog 6 #[.string o, .string f] W fun e w' => e = .returned (.bool true) ∧ Below W.heap.size W w' := Rp.stale_any W o f ho hf
end Go.Proofs.Ytdbpbpnbcjbchaa
