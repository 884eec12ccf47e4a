/- The walks of the reference's add and sub of digits. -/
import Derived.Test.YteclghokkdkolaaNatRForm
import Derived.Test.YteclghokkdkolaaNatOwn
import Derived.Deep.DeepCutAuto
set_option linter.unusedVariables false
namespace Go.Proofs.Yteclghokkdkolaa
open Go.RowKit

theorem Try.infoI : (Try.prog.info? 3).map (fun i => (i.zero, i.size, i.bytes)) = some (some (.int .i64 0), 1, 8) := by kernel_rfl
theorem Dg_at (f : Nat → Nat) (k : Nat) : Dg f k = .int .i64 (f k : Int) := rfl
theorem Lm_at (f : Nat → Nat) (k : Nat) : Lm f k = .int .u32 (f k : Int) := rfl

set_option maxHeartbeats 1000000 in
set_option maxRecDepth 100000 in
theorem radd_any {D E : Option Addr} {n m c c' x y : Nat} {w : World} (hn : n ≤ 1000) (hm : m ≤ 1000) (hnx : n = L16 x) (hmy : m = L16 y) (hx : Cells w D n (Dg (d16 x))) (hy : Cells w E m (Dg (d16 y))) :
    Calls Try.prog 74 #[.slice D n c, .slice E m c'] w fun e w' => ∃ Dr cr, e = .returned (.slice Dr (L16 (x + y)) cr) ∧ L16 (x + y) ≤ cr ∧ Cells w' Dr (L16 (x + y)) (Dg (d16 (x + y))) ∧ Fresh w.heap.size Dr ∧ Below w.heap.size w w' := by
  obtain ⟨i0, hi, hz0, hz1, hz2⟩ := info_parts Try.infoI
  have HX := Lib.hid hnx
  have HY := Lib.hid hmy
  clear hnx hmy
  obtain ⟨z, hz⟩ : ∃ z, z = x + y := ⟨_, rfl⟩
  rw [← hz]
  have HZ := Lib.hid hz
  clear hz
  go_enter Try.func74, Try.ntmps74
  go_upto_if 15 with (fail)
  go_cut [5] (fun s5 wx => ∃ q : Nat, s5 = .int .i64 (q : Int) ∧ n ≤ q ∧ m ≤ q ∧ q ≤ 1000 ∧ Hid (wx = w))
  case first =>
    by_cases hnm : n < m
    · go_wp2
      go_meet
      case rel => exact ⟨m, rfl, by omega, by omega, by omega, rfl⟩
    · go_wp2
      go_meet
      case rel => exact ⟨n, rfl, by omega, by omega, by omega, rfl⟩
  case rest =>
    obtain ⟨q, rfl, hnq, hmq, hq, HW⟩ := hcut
    obtain rfl := HW.out
    clear HW
    go_wp2
    go_loopw [6, 7, 8] (fun v cr i wr => ∃ k : Nat, k ≤ q + 1 ∧ i = .int .i64 k ∧ cr = .int .i64 (c16 x y k) ∧ Hid (wr.ownsRow wc.heap.size 3 1 v k (row (k * 1) (Dg (d16 z)))) ∧ Hid (Below wc.heap.size wc wr)) (fun _ _ i _ => q + 1 - (intOf i).toNat)
    case atStart => exact ⟨0, Nat.zero_le _, rfl, by rw [c16_zero]; rfl, World.ownsRow_nil _ _ _ _, Below.refl _ _⟩
    case round =>
      obtain ⟨k, hk, rfl, rfl, HO, HB⟩ := hrel
      have hst := c16_step x y k
      rw [← HZ.out] at hst
      have hcl := c16_le x y k
      have hcl2 := c16_le x y (k + 1)
      have hd1 := d16_lt x k
      have hd2 := d16_lt y k
      have hd3 := d16_lt z k
      have HST := Lib.hid hst
      have hsz := HB.out.size
      clear hst
      by_cases hkq : k < q + 1
      · go_wp2_with fail
        refine (rdigit_any (N := x) (by omega) (by omega) (by rw [HX.out]; exact Nat.le_refl _) (hx.below HB.out)).mono ?_
        rintro e w1 ⟨rfl, rfl⟩
        go_wp2_with fail
        refine (rdigit_any (N := y) (by omega) (by omega) (by rw [HY.out]; exact Nat.le_refl _) (hy.below HB.out)).mono ?_
        rintro e w1 ⟨rfl, rfl⟩
        have e1 := Lib.hid (show ((d16 x k : Int) + (d16 y k : Int) + (c16 x y k : Int)) % 65536 = (d16 z k : Int) by have := HST.out; omega)
        have e2 := Lib.hid (show ((d16 x k : Int) + (d16 y k : Int) + (c16 x y k : Int)) / 65536 = (c16 x y (k + 1) : Int) by have := HST.out; omega)
        go_wp2_with (at_builtin; refine wpList_append_own _ rfl _ _ 71 rfl wc.heap.size 3 i0 (.int .i64 0) 1 8 Try.underlying71 hi hz0 hz1 hz2 rfl (by decide) _ _ _ rfl (HO.out.alloc _) ⟨wr.heap.size, 0, none⟩ 1 1 [.int .i64 (((d16 x k : Int) + (d16 y k : Int) + (c16 x y k : Int)) % 65536)] rfl rfl ?c1 ?c2 ?c3 ?c4 ?c5 ?_)
        case c1 => exact fun j u hu => new_cell rfl (by simpa using hu)
        case c2 => intro u hu; simp at hu; subst hu; rfl
        case c3 => unfold maxLen; omega
        case c4 => omega
        case c5 => simp; omega
        intro v' w3 hown' hgrow _
        rw [e1.out] at hown'
        have HB3 := Lib.hid (own_below (HB.out.alloc hsz _) (HO.out.alloc _) (by simp; omega) hgrow)
        have HO3 : Hid (w3.ownsRow wc.heap.size 3 1 v' (k + 1) (row ((k + 1) * 1) (Dg (d16 z)))) := by
          rw [Nat.mul_one, row_one, Dg_at]
          exact hown'
        clear hown' hgrow HO HB
        go_wp2
        go_roundw
        case rel => exact ⟨k + 1, by omega, by go_num, by rw [e2.out], HO3, HB3⟩
        case measure => simp [intOf]; omega
      · obtain rfl : k = q + 1 := by omega
        have hf := Lib.hid (c16_top (x := x) (y := y) (n := q) (fit16_of (by rw [← HX.out]; exact hnq)) (fit16_of (by rw [← HY.out]; exact hmq)))
        obtain ⟨D', c2, rfl, hcc⟩ := own_slice HO.out
        have HC := Lib.hid (Cells.of_own HO.out)
        have HF := Lib.hid (Fresh.of_own HO.out)
        go_wp2_with fail
        refine (rtrim_any (N := z) (by omega) hcc (by rw [HZ.out]; exact hf.out.2) (by rw [← Nat.mul_one (q + 1)]; exact HC.out)).mono ?_
        rintro e w1 ⟨rfl, rfl⟩
        have hl : L16 z ≤ q + 1 := fit16_le (by rw [HZ.out]; exact hf.out.2)
        go_wp2
        go_ret
        exact ⟨D', c2, rfl, by omega, HC.out.sub (by omega), HF.out, HB.out⟩

set_option maxHeartbeats 1000000 in
set_option maxRecDepth 100000 in
theorem rsub_any {D E : Option Addr} {n m c c' x y : Nat} {w : World} (hn : n ≤ 1000) (hm : m ≤ 1000) (hnx : n = L16 x) (hmy : m = L16 y) (hx : Cells w D n (Dg (d16 x))) (hy : Cells w E m (Dg (d16 y))) (hyx : y ≤ x) :
    Calls Try.prog 73 #[.slice D n c, .slice E m c'] w fun e w' => ∃ Dr cr, e = .returned (.slice Dr (L16 (x - y)) cr) ∧ L16 (x - y) ≤ cr ∧ Cells w' Dr (L16 (x - y)) (Dg (d16 (x - y))) ∧ Fresh w.heap.size Dr ∧ Below w.heap.size w w' := by
  obtain ⟨i0, hi, hz0, hz1, hz2⟩ := info_parts Try.infoI
  have HX := Lib.hid hnx
  have HY := Lib.hid hmy
  clear hnx hmy
  obtain ⟨z, hz⟩ : ∃ z, z = x - y := ⟨_, rfl⟩
  rw [← hz]
  have HZ := Lib.hid (show z + y = x by omega)
  clear hz hyx
  go_enter Try.func73, Try.ntmps73
  go_wp2
  go_loopw [5, 6, 7] (fun v cr i wr => ∃ k : Nat, k ≤ n ∧ i = .int .i64 k ∧ cr = .int .i64 (c16 z y k) ∧ Hid (wr.ownsRow w.heap.size 3 1 v k (row (k * 1) (Dg (d16 z)))) ∧ Hid (Below w.heap.size w wr)) (fun _ _ i _ => n - (intOf i).toNat)
  case atStart => exact ⟨0, Nat.zero_le _, rfl, by rw [c16_zero]; rfl, World.ownsRow_nil _ _ _ _, Below.refl _ _⟩
  case round =>
    obtain ⟨k, hk, rfl, rfl, HO, HB⟩ := hrel
    have hst := s16_step HZ.out k
    have hcl := c16_le z y k
    have hcl2 := c16_le z y (k + 1)
    have hd1 := d16_lt x k
    have hd2 := d16_lt y k
    have hd3 := d16_lt z k
    have HST := Lib.hid hst
    have hsz := HB.out.size
    clear hst
    by_cases hkn : k < n
    · obtain ⟨b1, o1, rfl, hlt1, hc1⟩ := (hx.below HB.out).dg hkn
      have hk0 : (0 : Int) ≤ (k : Int) := by omega
      have hk1 : (k : Int) < (n : Int) := by omega
      have s1 : IntKind.i64.wrap ((d16 x k : Int) - (d16 y k : Int)) = (d16 x k : Int) - (d16 y k : Int) := IntWalk.i64_in _ (by omega)
      have s2 : IntKind.i64.wrap ((d16 x k : Int) - (d16 y k : Int) - (c16 z y k : Int)) = (d16 x k : Int) - (d16 y k : Int) - (c16 z y k : Int) := IntWalk.i64_in _ (by omega)
      go_wp2
      go_quiet ((go_at_call 92; exact quiet_left (rdigit_any (N := y) (by omega) (by omega) (by rw [HY.out]; exact Nat.le_refl _) (hy.below (below_drewN HB.out _)))))
      clear s1 s2
      by_cases hcm : d16 x k < c16 z y k + d16 y k
      · have hcm2 : ((d16 x k : Nat) : Int) - (d16 y k : Int) - (c16 z y k : Int) < 0 := by omega
        have HE := Lib.hid (HST.out.1 hcm)
        have e1 := Lib.hid (show ((d16 x k : Int) - (d16 y k : Int) - (c16 z y k : Int) + 65536) = (d16 z k : Int) by have := HE.out.2; omega)
        clear hcm
        go_wp2_with (at_builtin; refine wpList_append_own _ rfl _ _ 71 rfl w.heap.size 3 i0 (.int .i64 0) 1 8 Try.underlying71 hi hz0 hz1 hz2 rfl (by decide) _ _ _ rfl ((own_keep HO.out (below_drewN (Below.refl _ _) _)).alloc _) ⟨wr.heap.size, 0, none⟩ 1 1 [.int .i64 ((d16 x k : Int) - (d16 y k : Int) - (c16 z y k : Int) + 65536)] rfl rfl ?c1 ?c2 ?c3 ?c4 ?c5 ?_)
        case c1 => exact fun j u hu => new_cell rfl (by simpa using hu)
        case c2 => intro u hu; simp at hu; subst hu; rfl
        case c3 => unfold maxLen; omega
        case c4 => omega
        case c5 => simp; omega
        intro v' w3 hown' hgrow _
        rw [e1.out] at hown'
        have HB3 := Lib.hid (own_below ((below_drewN HB.out _).alloc hsz _) ((own_keep HO.out (below_drewN (Below.refl _ _) _)).alloc _) (by simp; omega) hgrow)
        have HO3 : Hid (w3.ownsRow w.heap.size 3 1 v' (k + 1) (row ((k + 1) * 1) (Dg (d16 z)))) := by
          rw [Nat.mul_one, row_one, Dg_at]
          exact hown'
        clear hown' hgrow HO HB
        go_wp2
        go_roundw
        case rel => exact ⟨k + 1, by omega, by go_num, by rw [HE.out.1]; rfl, HO3, HB3⟩
        case measure => simp [intOf]; omega
      · have hcm2 : 0 ≤ ((d16 x k : Nat) : Int) - (d16 y k : Int) - (c16 z y k : Int) := by omega
        have HE := Lib.hid (HST.out.2 hcm)
        have e1 := Lib.hid (show ((d16 x k : Int) - (d16 y k : Int) - (c16 z y k : Int)) = (d16 z k : Int) by have := HE.out.2; omega)
        clear hcm
        go_wp2_with (at_builtin; refine wpList_append_own _ rfl _ _ 71 rfl w.heap.size 3 i0 (.int .i64 0) 1 8 Try.underlying71 hi hz0 hz1 hz2 rfl (by decide) _ _ _ rfl ((own_keep HO.out (below_drewN (Below.refl _ _) _)).alloc _) ⟨wr.heap.size, 0, none⟩ 1 1 [.int .i64 ((d16 x k : Int) - (d16 y k : Int) - (c16 z y k : Int))] rfl rfl ?d1 ?d2 ?d3 ?d4 ?d5 ?_)
        case d1 => exact fun j u hu => new_cell rfl (by simpa using hu)
        case d2 => intro u hu; simp at hu; subst hu; rfl
        case d3 => unfold maxLen; omega
        case d4 => omega
        case d5 => simp; omega
        intro v' w3 hown' hgrow _
        rw [e1.out] at hown'
        have HB3 := Lib.hid (own_below ((below_drewN HB.out _).alloc hsz _) ((own_keep HO.out (below_drewN (Below.refl _ _) _)).alloc _) (by simp; omega) hgrow)
        have HO3 : Hid (w3.ownsRow w.heap.size 3 1 v' (k + 1) (row ((k + 1) * 1) (Dg (d16 z)))) := by
          rw [Nat.mul_one, row_one, Dg_at]
          exact hown'
        clear hown' hgrow HO HB
        go_wp2
        go_roundw
        case rel => exact ⟨k + 1, by omega, by go_num, by rw [HE.out.1]; rfl, HO3, HB3⟩
        case measure => simp [intOf]; omega
    · obtain rfl : k = n := by omega
      have hf := Lib.hid (fit16_of (N := z) (n := k) (by rw [HX.out]; exact Nt.len_mono (by omega) (by have := HZ.out; omega)))
      obtain ⟨D', c2, rfl, hcc⟩ := own_slice HO.out
      have HC := Lib.hid (Cells.of_own HO.out)
      have HF := Lib.hid (Fresh.of_own HO.out)
      go_wp2_with fail
      refine (rtrim_any (N := z) (by omega) hcc hf.out (by rw [← Nat.mul_one k]; exact HC.out)).mono ?_
      rintro e w1 ⟨rfl, rfl⟩
      have hl : L16 z ≤ k := fit16_le hf.out
      go_wp2
      go_ret
      exact ⟨D', c2, rfl, by omega, HC.out.sub (by omega), HF.out, HB.out⟩
end Go.Proofs.Yteclghokkdkolaa
