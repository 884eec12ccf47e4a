/- The walks of the reference's Halves and Whole: limbs as digits of 16 bits, and back. -/
import Derived.Test.YtiflmnmkmpjecaaG1
import Derived.Test.YtiflmnmkmpjecaaG2
set_option linter.unusedVariables false
namespace Go.Proofs.Ytiflmnmkmpjecaa
open Go.RowKit

theorem half_pow (k : Nat) : (65536 : Nat) ^ (2 * k) = 4294967296 ^ k := by rw [Nat.pow_mul]
theorem d16_even (N k : Nat) : d16 N (2 * k) = d32 N k % 65536 := by
  unfold d16 d32 Nt.dig
  rw [half_pow, Nat.mod_mod_of_dvd _ ⟨65536, by omega⟩]
theorem d16_odd (N k : Nat) : d16 N (2 * k + 1) = d32 N k / 65536 := by
  unfold d16 d32 Nt.dig
  rw [Nat.pow_succ, half_pow, ← Nat.div_div_eq_div_mul]
  generalize N / 4294967296 ^ k = q
  omega
theorem d32_half (N k : Nat) : d32 N k = d16 N (2 * k) + 65536 * d16 N (2 * k + 1) := by
  rw [d16_even, d16_odd]; omega
theorem fit_half {N n : Nat} : Fit32 N n ↔ Fit16 N (2 * n) := by
  unfold Fit16 Fit32; rw [half_pow]
theorem L32_half (N : Nat) : L32 N = (L16 N + 1) / 2 := by
  have h1 : L32 N ≤ (L16 N + 1) / 2 := fit32_le (fit_half.2 (fit16_of (by omega)))
  have h2 : L16 N ≤ 2 * L32 N := fit16_le (fit_half.1 (fit32_len N))
  omega

set_option maxHeartbeats 1000000 in
set_option maxRecDepth 100000 in
theorem halves_any {D : Option Addr} {n c x : Nat} {w : World} (hn : n ≤ 1000) (hnx : n = L32 x) (hx : Cells w D n (Lm (d32 x))) :
    Calls Try.prog 79 #[natv D n c] w fun e w' => ∃ Dr cr, e = .returned (.slice Dr (L16 x) cr) ∧ L16 x ≤ cr ∧ Cells w' Dr (L16 x) (Dg (d16 x)) ∧ Fresh w.heap.size Dr ∧ Below w.heap.size w w' := by
  obtain ⟨i0, hi, hz0, hz1, hz2⟩ := info_parts Try.infoI
  have HX := Lib.hid (show Fit16 x (2 * n) by rw [hnx]; exact fit_half.1 (fit32_len x))
  clear hnx
  unfold natv
  have HB0 := Lib.hid ((Below.refl w.heap.size w).alloc (Nat.le_refl _) (.cells #[.slice D n c] 32))
  have HK0 := Lib.hid (Blk.new w 32 #[.slice D n c])
  go_enter Try.func79, Try.ntmps79
  go_wp2
  go_loopw [3, 4] (fun v i wr => ∃ k : Nat, k ≤ n ∧ i = .int .i64 k ∧ Hid (wr.ownsRow (w.heap.size + 1) 3 1 v (2 * k) (row (2 * k * 1) (Dg (d16 x)))) ∧ Hid (Below w.heap.size w wr) ∧ Hid (Blk wr w.heap.size 32 #[.slice D n c])) (fun _ i _ => n - (intOf i).toNat)
  case atStart => exact ⟨0, Nat.zero_le _, rfl, World.ownsRow_nil _ _ _ _, HB0, HK0⟩
  case round =>
    obtain ⟨k, hk, rfl, HO, HB, HK⟩ := hrel
    have hsz := HB.out.size
    have hlt := HK.out.lt
    have q0 : wr.cell? ⟨w.heap.size, 0, none⟩ = some (.slice D n c) := HK.out.cell 0
    by_cases hkn : k < n
    · obtain ⟨b1, o1, rfl, hlt1, hc1⟩ := (hx.below HB.out).lm hkn
      have hd1 := d32_lt x k
      have HE := Lib.hid (d16_even x k)
      have HD := Lib.hid (d16_odd x k)
      go_wp2_with (at_builtin; refine wpList_append_own _ rfl _ _ 24 rfl (w.heap.size + 1) 3 i0 (.int .i64 0) 1 8 Try.underlying24 hi hz0 hz1 hz2 rfl (by decide) _ _ _ rfl (HO.out.alloc _) ⟨wr.heap.size, 0, none⟩ 1 1 [.int .i64 ((d32 x k : Int) % 65536)] rfl rfl ?c1 ?c2 ?c3 ?c4 ?c5 ?_)
      case c1 => exact fun j u hu => new_cell rfl (by simpa using hu)
      case c2 => intro u hu; simp at hu; subst hu; rfl
      case c3 => unfold maxLen; omega
      case c4 => omega
      case c5 => simp; omega
      intro v' w3 hown' hgrow _
      have HB3 := Lib.hid ((HB.out.alloc hsz (.cells #[.int .i64 ((d32 x k : Int) % 65536)] 3)).grown hgrow (by simp; omega) fun j hj => by
        have := (HO.out.alloc (.cells #[.int .i64 ((d32 x k : Int) % 65536)] 3)).lt j hj
        omega)
      have HK3 := Lib.hid ((HK.out.alloc (.cells #[.int .i64 ((d32 x k : Int) % 65536)] 3)).grown hgrow (by
        intro e
        have := (HO.out.alloc (.cells #[.int .i64 ((d32 x k : Int) % 65536)] 3)).lt w.heap.size e.symm
        omega))
      have HO3 : Hid (w3.ownsRow (w.heap.size + 1) 3 1 v' (2 * k + 1) (row ((2 * k + 1) * 1) (Dg (d16 x)))) := by
        rw [show ((d32 x k : Int) % 65536) = (d16 x (2 * k) : Int) by have := HE.out; omega] at hown'
        rw [Nat.mul_one, row_one, Dg_at]
        exact hown'
      clear hown' hgrow HO HB HK q0 hc1 hlt hsz
      have hsz := HB3.out.size
      have hlt := HK3.out.lt
      have q0 : w3.cell? ⟨w.heap.size, 0, none⟩ = some (.slice (some ⟨b1, o1, none⟩) n c) := HK3.out.cell 0
      obtain ⟨b2, o2, hbo, hlt2, hc1⟩ := (hx.below HB3.out).lm hkn
      injection hbo with hbo
      injection hbo with hbo1 hbo2
      subst hbo1 hbo2
      go_wp2_with (at_builtin; refine wpList_append_own _ rfl _ _ 24 rfl (w.heap.size + 1) 3 i0 (.int .i64 0) 1 8 Try.underlying24 hi hz0 hz1 hz2 rfl (by decide) _ _ _ rfl (HO3.out.alloc _) ⟨w3.heap.size, 0, none⟩ 1 1 [.int .i64 ((d32 x k : Int) / 65536)] rfl rfl ?d1 ?d2 ?d3 ?d4 ?d5 ?_)
      try case d1 => exact fun j u hu => new_cell rfl (by simpa using hu)
      try case d2 => first | rfl | (intro u hu; simp at hu; subst hu; rfl)
      case d3 => unfold maxLen; omega
      case d4 => omega
      try case d5 => first | omega | (simp; omega)
      intro v2 w4 hown' hgrow _
      have HB4 := Lib.hid ((HB3.out.alloc hsz (.cells #[.int .i64 ((d32 x k : Int) / 65536)] 3)).grown hgrow (by simp; omega) fun j hj => by
        have := (HO3.out.alloc (.cells #[.int .i64 ((d32 x k : Int) / 65536)] 3)).lt j hj
        omega)
      have HK4 := Lib.hid ((HK3.out.alloc (.cells #[.int .i64 ((d32 x k : Int) / 65536)] 3)).grown hgrow (by
        intro e
        have := (HO3.out.alloc (.cells #[.int .i64 ((d32 x k : Int) / 65536)] 3)).lt w.heap.size e.symm
        omega))
      have HO4 : Hid (w4.ownsRow (w.heap.size + 1) 3 1 v2 (2 * (k + 1)) (row (2 * (k + 1) * 1) (Dg (d16 x)))) := by
        rw [show ((d32 x k : Int) / 65536) = (d16 x (2 * k + 1) : Int) by have := HD.out; omega] at hown'
        rw [show 2 * (k + 1) = 2 * k + 1 + 1 by omega, Nat.mul_one, row_one, Dg_at]
        exact hown'
      clear hown' hgrow HO3 HB3 HK3 q0 hc1 hlt hsz
      go_wp2
      go_roundw
      case rel => exact ⟨k + 1, by omega, by go_num, HO4, HB4, HK4⟩
      case measure => simp [intOf]; omega
    · obtain rfl : k = n := by omega
      obtain ⟨D', c2, rfl, hcc⟩ := own_slice HO.out
      have HC := Lib.hid (Cells.of_own HO.out)
      have HF := Lib.hid (Fresh.of_own HO.out)
      go_wp2_with fail
      refine (rtrim_any (N := x) (by omega) hcc HX.out (by rw [← Nat.mul_one (2 * k)]; exact HC.out)).mono ?_
      rintro e w1 ⟨rfl, rfl⟩
      have hl : L16 x ≤ 2 * k := fit16_le HX.out
      go_wp2
      go_ret
      exact ⟨D', c2, rfl, by omega, HC.out.sub (by omega), HF.out.mono (by omega), HB.out⟩

set_option maxHeartbeats 1000000 in
set_option maxRecDepth 100000 in
theorem whole_any {D : Option Addr} {n c x : Nat} {w : World} (hn : n ≤ 1000) (hnc : n ≤ c) (hnx : Fit16 x n) (hx : Cells w D n (Dg (d16 x))) :
    Calls Try.prog 77 #[.slice D n c] w fun e w' =>
      ((L32 x ≤ 64 ∧ ∃ Dr cr, e = .returned (.tuple #[natv Dr (L32 x) cr, .bool true]) ∧ L32 x ≤ cr ∧ Cells w' Dr (L32 x) (Lm (d32 x)) ∧ Fresh w.heap.size Dr) ∨
       (64 < L32 x ∧ e = .returned (.tuple #[natv none 0 0, .bool false]))) ∧ Below w.heap.size w w' := by
  obtain ⟨i0, hi, hz0, hz1, hz2⟩ := info_parts Try.infoU
  have HX := Lib.hid hnx
  have HH := Lib.hid (L32_half x)
  obtain ⟨l, hl⟩ : ∃ l, l = L16 x := ⟨_, rfl⟩
  have hln : l ≤ n := by rw [hl]; exact fit16_le hnx
  have HL := Lib.hid hl
  have HB0 := Lib.hid ((Below.refl w.heap.size w).alloc (Nat.le_refl _) (.cells #[.slice none 0 0] 32))
  have HK0 := Lib.hid (Blk.new w 32 #[.slice none 0 0])
  clear hnx hl
  go_enter Try.func77, Try.ntmps77
  go_wp2_with fail
  refine (rtrim_any (N := x) (by omega) hnc HX.out (hx.below HB0.out)).mono ?_
  rintro e w1 ⟨rfl, rfl⟩
  rw [← HL.out]
  by_cases h128 : 128 < l
  · have h64 := Lib.hid (show 64 < L32 x by rw [HH.out, ← HL.out]; omega)
    go_wp2
    refine bodyPost_ret (v := .tuple #[natv none 0 0, .bool false]) (by unfold natv; simp [results, Try.results77, go_sem]) rfl ?_
    exact ⟨.inr ⟨h64.out, rfl⟩, HB0.out⟩
  · have hx2 := Lib.hid ((hx.below HB0.out).sub hln)
    have h64 := Lib.hid (show L32 x ≤ 64 by rw [HH.out, ← HL.out]; omega)
    have HB1 := Lib.hid (HB0.out.alloc HB0.out.size (.cells #[.slice none 0 0] 32))
    have HK1 := Lib.hid (HK0.out.alloc (.cells #[.slice none 0 0] 32))
    have HA1 : Hid (Blk ((w.alloc (.cells #[.slice none 0 0] 32)).alloc (.cells #[.slice none 0 0] 32)) (w.heap.size + 1) 32 #[.slice none 0 0]) := by
      have := Blk.new (w.alloc (.cells #[.slice none 0 0] 32)) 32 #[.slice none 0 0]
      rwa [World.size_alloc] at this
    have hxw := Lib.hid (hx.sub hln)
    go_wp2
    go_loopw [5] (fun i wr => ∃ (k : Nat) (v : Value), k ≤ (l + 1) / 2 ∧ i = .int .i64 (((2 * k : Nat)) : Int) ∧ Hid (wr.ownsRow (w.heap.size + 1 + 1) 88 1 v k (row (k * 1) (Lm (d32 x)))) ∧ Hid (Below w.heap.size w wr) ∧ Hid (Blk wr w.heap.size 32 #[.slice none 0 0]) ∧ Hid (Blk wr (w.heap.size + 1) 32 #[v])) (fun i _ => l + 1 - (intOf i).toNat)
    case atStart => exact ⟨0, _, Nat.zero_le _, rfl, World.ownsRow_nil _ _ _ _, HB1, HK1, HA1⟩
    case round =>
      obtain ⟨k, v, hk, rfl, HO, HB, HK, HA⟩ := hrel
      have hsz := HB.out.size
      have hlt := HA.out.lt
      have q1 : wr.cell? ⟨w.heap.size + 1, 0, none⟩ = some v := HA.out.cell 0
      have f1 : wr.frozen? ⟨w.heap.size + 1, 0, none⟩ = false := HA.out.frozen 0
      have ei : ((2 * k : Nat) : Int) = 2 * (k : Int) := by omega
      rw [ei]
      clear ei
      have hd1 := d16_lt x (2 * k)
      have hd2 := d16_lt x (2 * k + 1)
      have HE := Lib.hid (d32_half x k)
      by_cases hkl : 2 * k < l
      · obtain ⟨b1, o1, rfl, hlt1, hc1⟩ := (hxw.out.below HB.out).dg hkl
        have hi0 : (2 * (k : Int)).toNat = 2 * k := by omega
        by_cases hkl2 : 2 * k + 1 < l
        · obtain ⟨b2, o2, hbo, hlt2, hc2⟩ := (hxw.out.below HB.out).dg hkl2
          injection hbo with hbo
          injection hbo with hbo1 hbo2
          subst hbo1 hbo2
          go_wp2_with (at_builtin; refine wpList_append_own _ rfl _ _ 30 rfl (w.heap.size + 1 + 1) 88 i0 (.int .u32 0) 1 4 Try.underlying30 hi hz0 hz1 hz2 rfl (by decide) _ _ _ rfl (HO.out.alloc _) ⟨wr.heap.size, 0, none⟩ 1 1 [.int .u32 ((d16 x (2 * k) : Int) + 65536 * (d16 x (2 * k + 1) : Int))] rfl rfl ?c1 ?c2 ?c3 ?c4 ?c5 ?_)
          try case c1 => exact fun j u hu => new_cell rfl (by simpa using hu)
          try case c2 => first | rfl | (intro u hu; simp at hu; subst hu; rfl)
          case c3 => unfold maxLen; omega
          case c4 => omega
          try case c5 => first | omega | (simp; omega)
          intro v' w3 hown' hgrow _
          have hlo : ∀ j, v.ownBlock = some j → w.heap.size + 1 + 1 ≤ j := fun j hj => (HO.out.lt j hj).1
          have HB3 := Lib.hid ((HB.out.alloc hsz (.cells #[.int .u32 ((d16 x (2 * k) : Int) + 65536 * (d16 x (2 * k + 1) : Int))] 88)).grown hgrow (by simp; omega) fun j hj => by have := hlo j hj; omega)
          have HK3 := Lib.hid ((HK.out.alloc (.cells #[.int .u32 ((d16 x (2 * k) : Int) + 65536 * (d16 x (2 * k + 1) : Int))] 88)).grown hgrow (by intro e; have := hlo _ e.symm; omega))
          have HA3 := Lib.hid ((HA.out.alloc (.cells #[.int .u32 ((d16 x (2 * k) : Int) + 65536 * (d16 x (2 * k + 1) : Int))] 88)).grown hgrow (by intro e; have := hlo _ e.symm; omega))
          have HO3 : Hid (w3.ownsRow (w.heap.size + 1 + 1) 88 1 v' (k + 1) (row ((k + 1) * 1) (Lm (d32 x)))) := by
            rw [show (((d16 x (2 * k) : Int) + 65536 * (d16 x (2 * k + 1) : Int)) : Int) = (d32 x k : Int) by have := HE.out; omega] at hown'
            rw [Nat.mul_one, row_one, Lm_at]
            first | exact hown' | (rw [Nat.mul_one] at hown'; exact hown')
          clear hown' hgrow HO HB HK HA hlo q1 f1
          obtain ⟨Dv, cv, rfl, _⟩ := own_slice HO3.out
          have f1 : w3.frozen? ⟨w.heap.size + 1, 0, none⟩ = false := HA3.out.frozen 0
          have q1 : w3.cell? ⟨w.heap.size + 1, 0, none⟩ = some v := HA3.out.cell 0
          go_wp2
          go_roundw
          case rel => exact ⟨k + 1, _, by omega, by go_num, own_only HO3.out (only_set (only_refl _ _) 0 _) (by omega), HB3.out.setCell (by simp) _, HK3.out.grown (only_set (only_refl _ _) 0 _) (by intro e; injection e; omega), HA3.out.set_ 0 _⟩
          case measure => simp [intOf]; omega
        · have HZ := Lib.hid (d16_high (N := x) (j := 2 * k + 1) (by rw [← HL.out]; omega))
          go_wp2_with (at_builtin; refine wpList_append_own _ rfl _ _ 30 rfl (w.heap.size + 1 + 1) 88 i0 (.int .u32 0) 1 4 Try.underlying30 hi hz0 hz1 hz2 rfl (by decide) _ _ _ rfl (HO.out.alloc _) ⟨wr.heap.size, 0, none⟩ 1 1 [.int .u32 (d16 x (2 * k) : Int)] rfl rfl ?d1 ?d2 ?d3 ?d4 ?d5 ?_)
          try case d1 => exact fun j u hu => new_cell rfl (by simpa using hu)
          try case d2 => first | rfl | (intro u hu; simp at hu; subst hu; rfl)
          case d3 => unfold maxLen; omega
          case d4 => omega
          try case d5 => first | omega | (simp; omega)
          intro v' w3 hown' hgrow _
          have hlo : ∀ j, v.ownBlock = some j → w.heap.size + 1 + 1 ≤ j := fun j hj => (HO.out.lt j hj).1
          have HB3 := Lib.hid ((HB.out.alloc hsz (.cells #[.int .u32 (d16 x (2 * k) : Int)] 88)).grown hgrow (by simp; omega) fun j hj => by have := hlo j hj; omega)
          have HK3 := Lib.hid ((HK.out.alloc (.cells #[.int .u32 (d16 x (2 * k) : Int)] 88)).grown hgrow (by intro e; have := hlo _ e.symm; omega))
          have HA3 := Lib.hid ((HA.out.alloc (.cells #[.int .u32 (d16 x (2 * k) : Int)] 88)).grown hgrow (by intro e; have := hlo _ e.symm; omega))
          have HO3 : Hid (w3.ownsRow (w.heap.size + 1 + 1) 88 1 v' (k + 1) (row ((k + 1) * 1) (Lm (d32 x)))) := by
            rw [show ((d16 x (2 * k) : Int) : Int) = (d32 x k : Int) by have := HE.out; have := HZ.out; omega] at hown'
            rw [Nat.mul_one, row_one, Lm_at]
            first | exact hown' | (rw [Nat.mul_one] at hown'; exact hown')
          clear hown' hgrow HO HB HK HA hlo q1 f1
          obtain ⟨Dv, cv, rfl, _⟩ := own_slice HO3.out
          have f1 : w3.frozen? ⟨w.heap.size + 1, 0, none⟩ = false := HA3.out.frozen 0
          have q1 : w3.cell? ⟨w.heap.size + 1, 0, none⟩ = some v := HA3.out.cell 0
          go_wp2
          go_roundw
          case rel => exact ⟨k + 1, _, by omega, by go_num, own_only HO3.out (only_set (only_refl _ _) 0 _) (by omega), HB3.out.setCell (by simp) _, HK3.out.grown (only_set (only_refl _ _) 0 _) (by intro e; injection e; omega), HA3.out.set_ 0 _⟩
          case measure => simp [intOf]; omega
      · have hkk : k = L32 x := by rw [HH.out, ← HL.out]; omega
        have HKK := Lib.hid hkk
        clear hkk
        obtain ⟨D', c2, rfl, hcc⟩ := own_slice HO.out
        have HC := Lib.hid (Cells.of_own HO.out)
        have HF := Lib.hid (Fresh.of_own HO.out)
        have f0 : wr.frozen? ⟨w.heap.size, 0, none⟩ = false := HK.out.frozen 0
        have q0 : wr.cell? ⟨w.heap.size, 0, none⟩ = some (.slice none 0 0) := HK.out.cell 0
        go_wp2
        refine bodyPost_ret (v := .tuple #[natv D' k c2, .bool true]) (by unfold natv; simp [results, Try.results77, go_sem, q0]) rfl ?_
        rw [← HKK.out]
        have hb8 := HB.out.setCell (p := ⟨w.heap.size, 0, none⟩) (Nat.le_refl _) (.slice D' k c2)
        refine ⟨.inl ⟨by rw [HKK.out]; exact h64.out, D', c2, rfl, hcc, ?_, HF.out.mono (by omega)⟩, hb8⟩
        have hcs := HC.out
        rw [Nat.mul_one] at hcs
        exact hcs.set_ HF.out (by omega) _ _
end Go.Proofs.Ytiflmnmkmpjecaa
