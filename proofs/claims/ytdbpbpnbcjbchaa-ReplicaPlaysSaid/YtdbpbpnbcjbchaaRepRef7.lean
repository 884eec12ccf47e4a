/- The reference's Propose. -/
import Derived.Test.YtdbpbpnbcjbchaaRepRef6
set_option linter.unusedVariables false
namespace Go.Proofs.Ytdbpbpnbcjbchaa
open Go.RowKit
namespace Rp
section
variable {B : Nat} {w : World} {h b n : Nat} {s : St} {lv : Nat → Value} {cv : Value}
set_option maxHeartbeats 1000000 in
theorem rpropose_bad (c : Rf B w h b n s lv cv) {x : Int} {t : ByteArray} (hx : x < 0 ∨ (n : Int) ≤ x) :
    Calls Try.prog 37 #[.pointer (some ⟨h, 0, none⟩), .int .i64 x, .string t] w fun e w' => e = .returned (.tuple #[.int .i64 0, .int .i64 2]) ∧ w = w' := by
  have HC := Lib.hid c
  clear c
  go_enter Try.func37, Try.ntmps37
  go_wp2_with fail
  refine (rhas_no HC.out hx).mono ?_
  rintro e w1 ⟨rfl, rfl⟩
  go_wp2
  go_ret2
  exact ⟨rfl, rfl⟩
set_option maxHeartbeats 1000000 in
theorem rpropose_no (c : Rf B w h b n s lv cv) {i : Nat} {t : ByteArray} (hi : i < n) (hl : ldr (s.nd i) = false) :
    Calls Try.prog 37 #[.pointer (some ⟨h, 0, none⟩), .int .i64 (i : Int), .string t] w fun e w' => e = .returned (.tuple #[.int .i64 0, .int .i64 8]) ∧ RDid B w w' h b n s := by
  have hn7 := c.n7
  obtain ⟨g0, _⟩ := c.g0
  obtain ⟨p0, p1, p2, p3, p4⟩ := c.at_ hi
  obtain ⟨A, cp, hlv, hcp, hA⟩ := c.log hi
  have hhw := c.grp.lt
  have hbw := c.nds.lt
  rw [hlv] at p4
  have HC := Lib.hid c
  have hal := (Below.refl w.heap.size w).alloc (Nat.le_refl _) (.cells #[.bool (s.nd i).down, .bool (s.nd i).cut, .int .i64 ((s.nd i).ep : Int), .int .i64 ((s.nd i).led : Int), .slice A (s.nd i).log.length cp] 71)
  have HAL := Lib.hid hal
  have HCL := Lib.hid fun (w' : World) => rleads_any w' (s.nd i) (.slice A (s.nd i).log.length cp)
  rw [hl] at HCL
  clear c hlv hA hal hl
  go_enter Try.func37, Try.ntmps37
  go_wp2_with fail
  refine (rhas_yes HC.out hi).mono ?_
  rintro e w1 ⟨rfl, rfl⟩
  go_wp2_with fail
  refine (HCL.out _).mono ?_
  rintro e w2 ⟨rfl, hb2⟩
  have HF := Lib.hid (HC.out.kept (Below.on HAL.out hb2))
  clear hb2
  go_wp2
  go_ret2
  exact ⟨rfl, HF.out⟩
end
end Rp
end Go.Proofs.Ytdbpbpnbcjbchaa
