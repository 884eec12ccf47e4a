/- works returns true. -/
import Derived.Test.YtdbpbpnbcjbchaaRepWorks
set_option linter.unusedVariables false
namespace Go.Proofs.Ytdbpbpnbcjbchaa
open Go.RowKit
namespace Rp
section
variable {B : Nat} {w : World} {h n K : Nat} {s s' : St} {x y z : Int}
theorem lead_at (o : Obj B w h n s) (hL : Lim s K) (hK : K ≤ 1000) (hy : ((leadO n s x).1 : Int) = z) (hs : (leadO n s x).2 = s') :
    Calls Try.prog 11 #[.pointer (some ⟨h, 0, none⟩), .int .i64 x] w fun e w' => e = .returned (.int .i64 z) ∧ Did B w w' h n s' := by
  subst hy hs; exact lead_all o hL hK x
theorem prop_at {t : ByteArray} {r : Int} (o : Obj B w h n s) (hL : Lim s K) (hK : K ≤ 1000) (ht : t.size ≤ 20) (hr : ((propO n s x t).1 : Int) = r) (hy : ((propO n s x t).2.1 : Int) = z) (hs : (propO n s x t).2.2 = s') :
    Calls Try.prog 12 #[.pointer (some ⟨h, 0, none⟩), .int .i64 x, .string t] w fun e w' => e = .returned (.tuple #[.int .i64 r, .int .i64 z]) ∧ Did B w w' h n s' := by
  subst hr hy hs; exact prop_all o hL hK x ht
theorem copy_at (o : Obj B w h n s) (hy : ((copyO n s x y).1 : Int) = z) (hs : (copyO n s x y).2 = s') :
    Calls Try.prog 15 #[.pointer (some ⟨h, 0, none⟩), .int .i64 x, .int .i64 y] w fun e w' => e = .returned (.int .i64 z) ∧ Did B w w' h n s' := by
  subst hy hs; exact copy_all o x y
theorem fail_at (o : Obj B w h n s) (hy : ((failO n s x).1 : Int) = z) (hs : (failO n s x).2 = s') :
    Calls Try.prog 33 #[.pointer (some ⟨h, 0, none⟩), .int .i64 x] w fun e w' => e = .returned (.int .i64 z) ∧ Did B w w' h n s' := by
  subst hy hs; exact fail_all o x
theorem cut_at (o : Obj B w h n s) (hy : ((cutO n s x).1 : Int) = z) (hs : (cutO n s x).2 = s') :
    Calls Try.prog 18 #[.pointer (some ⟨h, 0, none⟩), .int .i64 x] w fun e w' => e = .returned (.int .i64 z) ∧ Did B w w' h n s' := by
  subst hy hs; exact cut_all o x
theorem join_at (o : Obj B w h n s) (hy : ((joinO n s x).1 : Int) = z) (hs : (joinO n s x).2 = s') :
    Calls Try.prog 19 #[.pointer (some ⟨h, 0, none⟩), .int .i64 x] w fun e w' => e = .returned (.int .i64 z) ∧ Did B w w' h n s' := by
  subst hy hs; exact join_all o x
end
theorem lim_of {n K : Nat} {s : St} {a : Ac} (h : Lim s K) {s' : St} (e : (actO n s a).2.2 = s') : Lim s' (K + 1) := by subst e; exact lim_act h
theorem lim1 : Lim u1 1 := lim_of (n := 3) (a := ⟨0, 0, 0, ea⟩) lim0 rfl
theorem cut_ea : cut20 ea = ea := cut20_all (by decide)
theorem cut_eb : cut20 eb = eb := cut20_all (by decide)
theorem lim2 : Lim u2 2 := lim_of (n := 3) (a := ⟨1, 0, 0, ea⟩) lim1 (by show (propO 3 u1 0 (cut20 ea)).2.2 = u2; rw [cut_ea]; rfl)
theorem lim3 : Lim u3 3 := lim_of (n := 3) (a := ⟨2, 0, 1, ea⟩) lim2 rfl
theorem lim4 : Lim u4 4 := lim_of (n := 3) (a := ⟨3, 0, 1, ea⟩) lim3 rfl
theorem lim5 : Lim u5 5 := lim_of (n := 3) (a := ⟨0, 2, 1, ea⟩) lim4 rfl
set_option maxHeartbeats 4000000 in
theorem works51 (W : World) : Calls Try.prog 16 #[] W fun e w' => e = .returned (.bool true) ∧ Below W.heap.size W w' := by
  go_enter Try.func16, Try.ntmps16
  go_wp2_with fail
  refine (new_at W (n := 3) (by omega) (by omega)).mono ?_
  rintro e w1 ⟨rfl, ha⟩
  generalize W.heap.size = h at *
  have HA := Lib.hid ha
  clear ha
  go_wp2_with fail
  refine (lead_at (z := 0) (s' := u1) HA.out.obj lim0 (by omega) (by rw [u1_y]; rfl) rfl).mono ?_
  rintro e w2 ⟨rfl, hd⟩
  have HA2 := Lib.hid (HA.out.did hd)
  clear hd HA
  go_wp2_with fail
  refine (prop_at (t := ea) (r := 1) (z := 0) (s' := u2) HA2.out.obj lim1 (by omega) (by decide) (by rw [u2_y.1]; rfl) (by rw [u2_y.2.1]; rfl) rfl).mono ?_
  rintro e w3 ⟨rfl, hd⟩
  have HA3 := Lib.hid (HA2.out.did hd)
  clear hd HA2
  go_wp2_with fail
  refine (comm_obj HA3.out.obj (by rw [u2_y.2.2]; omega)).mono ?_
  rintro e w4 ⟨v, rfl, hv, hb⟩
  obtain ⟨D, c, rfl, _⟩ := own_slice hv
  rw [u2_y.2.2] at *
  have HA4 := Lib.hid (HA3.out.keep hb)
  clear hv hb HA3
  go_wp2_with fail
  refine (copy_at (z := 0) (s' := u3) HA4.out.obj (by rw [u3_y.1]; rfl) rfl).mono ?_
  rintro e w5 ⟨rfl, hd⟩
  have HA5 := Lib.hid (HA4.out.did hd)
  clear hd HA4
  go_wp2_with fail
  refine (comm_obj HA5.out.obj (by rw [u3_y.2]; decide)).mono ?_
  rintro e w6 ⟨v, rfl, hv, hb⟩
  obtain ⟨D2, c2, rfl, _⟩ := own_slice hv
  have hcs := Cells.of_own hv
  have hl1 : u3.done.length = 1 := by rw [u3_y.2]; rfl
  have hst : Str u3.done 0 = .string ea := by rw [u3_y.2]; rfl
  rw [hl1] at hcs
  obtain ⟨b, off, rfl, hlt, hc⟩ := hcs (by decide)
  have c0 := hc 0 (by decide)
  rw [hst] at c0
  have c1 : w6.cell? ⟨b, off, none⟩ = some (.string { data := #[97] }) := c0
  have hq1 : (({ data := #[97] } : ByteArray).toList == ({ data := #[97] } : ByteArray).toList) = true := by simp
  clear c0
  have HA6 := Lib.hid (HA5.out.keep hb)
  clear hv hb HA5 hst hc hcs
  go_wp2_with fail
  refine (fail_at (z := 0) (s' := u4) HA6.out.obj (by rw [u4_y]; rfl) rfl).mono ?_
  rintro e w7 ⟨rfl, hd⟩
  have HA7 := Lib.hid (HA6.out.did hd)
  clear hd HA6
  go_wp2_with fail
  refine (lead_at (z := 0) (s' := u5) HA7.out.obj lim4 (by omega) (by rw [u5_y]; rfl) rfl).mono ?_
  rintro e w8 ⟨rfl, hd⟩
  have HA8 := Lib.hid (HA7.out.did hd)
  clear hd HA7
  go_wp2_with fail
  refine (prop_at (t := eb) (r := 2) (z := 0) HA8.out.obj lim5 (by omega) (by decide) (by rw [u6_y.1]; rfl) (by rw [u6_y.2]; rfl) rfl).mono ?_
  rintro e w9 ⟨rfl, hd⟩
  have HA9 := Lib.hid (HA8.out.did hd)
  clear hd HA8
  go_wp2
  go_ret
  exact ⟨rfl, HA9.out.below⟩
end Rp
end Go.Proofs.Ytdbpbpnbcjbchaa
