/- The walk of the reference's GCD. -/
import Derived.Test.YtiflmnmkmpjecaaG1
import Derived.Test.YtiflmnmkmpjecaaNatRHalf
import Derived.Test.YtiflmnmkmpjecaaNatRSum
import Derived.Deep.LoopGhost
set_option linter.unusedVariables false
namespace Go.Proofs.Ytiflmnmkmpjecaa
open Go.RowKit

theorem d16_odd_even (x : Nat) : d16 x 0 % 2 = x % 2 := by
  unfold d16 Nt.dig
  rw [Nat.pow_zero, Nat.div_one]
  omega
theorem L16_pos {x : Nat} (h : 0 < x) : 0 < L16 x := by
  rcases Nat.eq_zero_or_pos (L16 x) with e | e
  · rw [L16_zero.1 e] at h; omega
  · exact e
theorem fit_sumV {x y B t e u : Nat} (hB : t ^ e = B) (ht : t = 2) (hx : x < B ^ u) (hy : y < B ^ u) : x + y < t ^ (e * u + 1) := by
  subst hB
  rw [← Nat.pow_mul] at hx hy
  rw [Nat.pow_succ]
  generalize t ^ (e * u) = P at *
  subst ht
  omega
/-- a number that is a sum of two, as a bound -/
def Sum2 (N : Nat) : Prop := N < 2 ^ (32 * 64 + 1)
theorem fit_sum {x y : Nat} (hx : L32 x ≤ 64) (hy : L32 y ≤ 64) : Sum2 (x + y) :=
  fit_sumV (B := 4294967296) (t := 2) (e := 32) (u := 64) (by decide) rfl (fit32_of hx) (fit32_of hy)
theorem Sum2.le {N M : Nat} (h : Sum2 N) (hle : M ≤ N) : Sum2 M := Nat.lt_of_le_of_lt hle h
theorem L16_sumV {x t B e u v : Nat} (hB : t ^ e = B) (h : x < t ^ v) (hv : v ≤ e * u) (hb : B = 65536) (ht : t = 2) : L16 x ≤ u := by
  refine fit16_le (Nat.lt_of_lt_of_le h ?_)
  rw [← hb, ← hB, ← Nat.pow_mul]
  exact Nat.pow_le_pow_right (by omega) hv
theorem L16_2049 {x : Nat} (h : Sum2 x) : L16 x ≤ 129 := L16_sumV (t := 2) (e := 16) (u := 129) (v := 32 * 64 + 1) (by decide) h (by decide) rfl rfl
theorem gst_2049 {a b x y t : Nat} (h : Gst a b x y t) (hab : Sum2 (a + b)) : t ≤ 2049 := gst_t (m := 32 * 64 + 1) h hab
theorem gcd_len {x y : Nat} (hx : L32 x ≤ 64) (hy : L32 y ≤ 64) : L32 (Nat.gcd x y) ≤ 64 := by
  rcases Nat.eq_zero_or_pos x with e | e
  · rw [e, Nat.gcd_zero_left]; exact hy
  · exact Nat.le_trans (Nt.len_mono (by omega) (Nat.le_of_dvd e (Nat.gcd_dvd_left x y))) hx

set_option maxHeartbeats 4000000 in
set_option maxRecDepth 100000 in
theorem refGCD_any {D E : Option Addr} {n m c c' x y : Nat} {w : World} (hn : n ≤ 64) (hm : m ≤ 64) (hnx : n = L32 x) (hmy : m = L32 y) (hx : Cells w D n (Lm (d32 x))) (hy : Cells w E m (Lm (d32 y))) :
    Calls Try.prog 75 #[natv D n c, natv E m c'] w fun e w' => ∃ Dr cr, e = .returned (.tuple #[natv Dr (L32 (Nat.gcd x y)) cr, .int .i64 0]) ∧ L32 (Nat.gcd x y) ≤ cr ∧ Cells w' Dr (L32 (Nat.gcd x y)) (Lm (d32 (Nat.gcd x y))) ∧ Fresh w.heap.size Dr ∧ Below w.heap.size w w' := by
  have hvx := Lib.hid (vd_true hn hnx)
  have hvy := Lib.hid (vd_true hm hmy)
  have HX := Lib.hid hnx
  have HY := Lib.hid hmy
  have HS := Lib.hid (fit_sum (x := x) (y := y) (by omega) (by omega))
  have HG64 := Lib.hid (gcd_len (x := x) (y := y) (by omega) (by omega))
  clear hnx hmy
  have BO0 := Lib.hid (Bo.new w (.slice D n c) (.slice E m c') (.slice none 0 0))
  unfold natv
  go_enter Try.func75, Try.ntmps75
  go_wp2_with fail
  refine (rvalid_is (by omega) (hx.below BO0.out.below) hvx.out).mono ?_
  rintro e w1 ⟨rfl, hb1⟩
  have BO1 := Lib.hid (BO0.out.on hb1)
  obtain ⟨q0, q1, q2, f2, hlt⟩ := BO1.out.facts
  clear hb1 BO0
  go_wp2_with fail
  refine (rvalid_is (by omega) (hy.below BO1.out.below) hvy.out).mono ?_
  rintro e w2 ⟨rfl, hb1⟩
  clear q0 q1 q2 f2 hlt
  have BO2 := Lib.hid (BO1.out.on hb1)
  obtain ⟨q0, q1, q2, f2, hlt⟩ := BO2.out.facts
  clear hb1 BO1
  go_wp2_with fail
  refine (halves_any (x := x) (by omega) HX.out (hx.below BO2.out.below)).mono ?_
  rintro e w3 ⟨D3, c3, rfl, hl3, hc3, hf3, hb3⟩
  clear q0 q1 q2 f2 hlt
  have BO3 := Lib.hid (BO2.out.on hb3)
  have HC3 := Lib.hid hc3
  obtain ⟨q0, q1, q2, f2, hlt⟩ := BO3.out.facts
  clear hb3 BO2 hc3 hf3
  go_wp2_with fail
  refine (halves_any (x := y) (by omega) HY.out (hy.below BO3.out.below)).mono ?_
  rintro e w4 ⟨D4, c4, rfl, hl4, hc4, hf4, hb4⟩
  clear q0 q1 q2 f2 hlt
  have BO4 := Lib.hid (BO3.out.on hb4)
  have HC4 := Lib.hid hc4
  have HC5 := Lib.hid (HC3.out.below hb4)
  obtain ⟨q0, q1, q2, f2, hlt⟩ := BO4.out.facts
  clear hb4 BO3 hc4 hf4 HC3
  go_wp2
  go_loopg [6, 7, 8] (x + y) (fun g sx sy st wr => ∃ (x' y' t : Nat) (D1 : Option Addr) (c1 : Nat) (D2 : Option Addr) (c2 : Nat), x' + y' ≤ g ∧ sx = .slice D1 (L16 x') c1 ∧ sy = .slice D2 (L16 y') c2 ∧ st = .int .i64 (t : Int) ∧ t ≤ 2049 ∧ L16 x' ≤ 129 ∧ L16 y' ≤ 129 ∧ Hid (Gst x y x' y' t) ∧ Hid (Cells wr D1 (L16 x') (Dg (d16 x'))) ∧ Hid (Cells wr D2 (L16 y') (Dg (d16 y'))) ∧ Hid (Bo w wr (.slice D n c) (.slice E m c') (.slice none 0 0)))
  case atStart => exact ⟨x, y, 0, D3, c3, D4, c4, Nat.le_refl _, rfl, rfl, rfl, by omega, L16_2049 (HS.out.le (by omega)), L16_2049 (HS.out.le (by omega)), Lib.hid (gst_start x y), HC5, HC4, BO4⟩
  case round =>
    obtain ⟨x', y', t, D1, c1, D2, c2, hg, rfl, rfl, rfl, ht, lx, ly, HG, HC1, HC2, BO⟩ := hrel
    have HX0 := Lib.hid (d16_odd_even x')
    have HY0 := Lib.hid (d16_odd_even y')
    have hst := gst_2049 HG.out HS.out
    by_cases hx0 : 0 < x'
    · have px := L16_pos hx0
      by_cases hy0 : 0 < y'
      · have py := L16_pos hy0
        obtain ⟨b1, o1, rfl, hlt1, k1⟩ := HC1.out.dg px
        obtain ⟨b2, o2, rfl, hlt2, k2⟩ := HC2.out.dg py
        rw [Nat.add_zero] at k1 k2
        have dx := d16_le x' 0
        have dy := d16_le y' 0
        by_cases ex : x' % 2 = 0
        · have ex2 : (((d16 x' 0 : Nat) : Int) % 2 == 0) = true := by have := HX0.out; simp; omega
          by_cases ey : y' % 2 = 0
          · have ey2 : (((d16 y' 0 : Nat) : Int) % 2 == 0) = true := by have := HY0.out; simp; omega
            have EX := Lib.hid ex
            have EY := Lib.hid ey
            clear ex ey
            go_wp2_with fail
            refine (rhalf_any (x := x') (by omega) rfl HC1.out).mono ?_
            rintro e w5 ⟨D5, c5, rfl, hl5, hc5, hf5, hb5⟩
            have HC5' := Lib.hid hc5
            have HC6 := Lib.hid (HC2.out.below hb5)
            have BO5 := Lib.hid (BO.out.on hb5)
            clear hc5 hb5 hf5 k1 k2
            go_wp2_with fail
            refine (rhalf_any (x := y') (by omega) rfl HC6.out).mono ?_
            rintro e w6 ⟨D6, c6, rfl, hl6, hc6, hf6, hb6⟩
            have HC7 := Lib.hid hc6
            have HC8 := Lib.hid (HC5'.out.below hb6)
            have BO6 := Lib.hid (BO5.out.on hb6)
            have HG2 := Lib.hid (gst_both HG.out hx0 EX.out EY.out)
            have ht2 := gst_2049 HG2.out HS.out
            have lx2 := L16_2049 (HS.out.le (Nat.le_trans (Nat.le_add_right _ _) (gst_le HG2.out)))
            have ly2 := L16_2049 (HS.out.le (Nat.le_trans (Nat.le_add_left _ _) (gst_le HG2.out)))
            clear hc6 hb6 hf6
            go_wp2
            go_roundg (x' / 2 + y' / 2)
            case measure => omega
            case rel => exact ⟨x' / 2, y' / 2, t + 1, D5, c5, D6, c6, Nat.le_refl _, rfl, rfl, by go_num, ht2, lx2, ly2, HG2, HC8, HC7, BO6⟩
          · have ey2 : (((d16 y' 0 : Nat) : Int) % 2 == 0) = false := by have := HY0.out; simp; omega
            have EX := Lib.hid ex
            have EY := Lib.hid ey
            clear ex ey
            go_wp2_with fail
            refine (rhalf_any (x := x') (by omega) rfl HC1.out).mono ?_
            rintro e w5 ⟨D5, c5, rfl, hl5, hc5, hf5, hb5⟩
            have HC5' := Lib.hid hc5
            have HC6 := Lib.hid (HC2.out.below hb5)
            have BO5 := Lib.hid (BO.out.on hb5)
            have HG2 := Lib.hid (gst_sub HG.out (gcd_left EX.out EY.out) (Nat.add_le_add_right (Nat.div_le_self x' 2) y'))
            have lx2 := L16_2049 (HS.out.le (Nat.le_trans (Nat.le_add_right _ _) (gst_le HG2.out)))
            clear hc5 hb5 hf5 k1 k2
            go_wp2
            go_roundg (x' / 2 + y')
            case measure => omega
            case rel => exact ⟨x' / 2, y', t, D5, c5, _, c2, Nat.le_refl _, rfl, rfl, rfl, ht, lx2, ly, HG2, HC5', HC6, BO5⟩
        · have ex2 : (((d16 x' 0 : Nat) : Int) % 2 == 0) = false := by have := HX0.out; simp; omega
          by_cases ey : y' % 2 = 0
          · have ey2 : (((d16 y' 0 : Nat) : Int) % 2 == 0) = true := by have := HY0.out; simp; omega
            have EX := Lib.hid ex
            have EY := Lib.hid ey
            clear ex ey
            go_wp2_with fail
            refine (rhalf_any (x := y') (by omega) rfl HC2.out).mono ?_
            rintro e w5 ⟨D5, c5, rfl, hl5, hc5, hf5, hb5⟩
            have HC5' := Lib.hid hc5
            have HC6 := Lib.hid (HC1.out.below hb5)
            have BO5 := Lib.hid (BO.out.on hb5)
            have HG2 := Lib.hid (gst_sub HG.out (gcd_right EX.out EY.out) (Nat.add_le_add_left (Nat.div_le_self y' 2) x'))
            have ly2 := L16_2049 (HS.out.le (Nat.le_trans (Nat.le_add_left _ _) (gst_le HG2.out)))
            clear hc5 hb5 hf5 k1 k2
            go_wp2
            go_roundg (x' + y' / 2)
            case measure => omega
            case rel => exact ⟨x', y' / 2, t, _, c1, D5, c5, Nat.le_refl _, rfl, rfl, rfl, ht, lx, ly2, HG2, HC6, HC5', BO5⟩
          · have ey2 : (((d16 y' 0 : Nat) : Int) % 2 == 0) = false := by have := HY0.out; simp; omega
            clear ex ey
            go_wp2_with fail
            refine (rcmp_any (x := x') (y := y') (by omega) (by omega) rfl rfl HC1.out HC2.out).mono ?_
            rintro e w5 ⟨rfl, hb5⟩
            have HC5' := Lib.hid (HC1.out.below hb5)
            have HC6 := Lib.hid (HC2.out.below hb5)
            have BO5 := Lib.hid (BO.out.on hb5)
            clear hb5 k1 k2
            by_cases hxy : y' ≤ x'
            · have hcv : 0 ≤ cmpI x' y' := by unfold cmpI; rw [if_neg (by omega)]; split <;> omega
              generalize cmpI x' y' = cv at hcv ⊢
              go_wp2_with fail
              refine (rsub_any (x := x') (y := y') (by omega) (by omega) rfl rfl HC5'.out HC6.out hxy).mono ?_
              rintro e w6 ⟨D6, c6, rfl, hl6, hc6, hf6, hb6⟩
              have HC7 := Lib.hid hc6
              have HC8 := Lib.hid (HC6.out.below hb6)
              have BO6 := Lib.hid (BO5.out.on hb6)
              have HG2 := Lib.hid (gst_sub HG.out (gcd_less hxy).symm (by omega : x' - y' + y' ≤ x' + y'))
              have lx2 := L16_2049 (HS.out.le (Nat.le_trans (Nat.le_add_right _ _) (gst_le HG2.out)))
              clear hc6 hb6 hf6
              go_wp2
              go_roundg (x' - y' + y')
              case measure => omega
              case rel => exact ⟨x' - y', y', t, D6, c6, _, c2, Nat.le_refl _, rfl, rfl, rfl, ht, lx2, ly, HG2, HC7, HC8, BO6⟩
            · have hcv : cmpI x' y' = -1 := by unfold cmpI; rw [if_pos (by omega)]
              rw [hcv]
              clear hcv
              go_wp2_with fail
              refine (rsub_any (x := y') (y := x') (by omega) (by omega) rfl rfl HC6.out HC5'.out (by omega)).mono ?_
              rintro e w6 ⟨D6, c6, rfl, hl6, hc6, hf6, hb6⟩
              have HC7 := Lib.hid hc6
              have HC8 := Lib.hid (HC5'.out.below hb6)
              have BO6 := Lib.hid (BO5.out.on hb6)
              have HG2 := Lib.hid (gst_sub HG.out (gcd_less' (show x' ≤ y' by omega)).symm (by omega : x' + (y' - x') ≤ x' + y'))
              have ly2 := L16_2049 (HS.out.le (Nat.le_trans (Nat.le_add_left _ _) (gst_le HG2.out)))
              clear hc6 hb6 hf6
              go_wp2
              go_roundg (x' + (y' - x'))
              case measure => omega
              case rel => exact ⟨x', y' - x', t, _, c1, D6, c6, Nat.le_refl _, rfl, rfl, rfl, ht, lx, ly2, HG2, HC8, HC7, BO6⟩
      · obtain rfl : y' = 0 := by omega
        have hz : L16 0 = 0 := L16_zero.2 rfl
        rw [hz] at HC2 ⊢
        have HZ := Lib.hid hz
        have HE := Lib.hid (gst_end HG.out (.inr rfl))
        clear hz hy0
        go_wp2_with fail
        refine (radd_any (x := x') (y := 0) (by omega) (by omega) rfl HZ.out.symm HC1.out HC2.out).mono ?_
        rintro e w6 ⟨D6, c6, rfl, hl6, hc6, hf6, hb6⟩
        have HSL := Lib.hid (gst_le HG.out)
        have HGL := Lib.hid HG.out.2.1
        obtain ⟨s, hs⟩ : ∃ s, s = x' + 0 := ⟨_, rfl⟩
        rw [← hs] at hl6 hc6 HE HSL HGL ⊢
        have HC6 := Lib.hid hc6
        have BO6 := Lib.hid (BO.out.on hb6)
        have HSB := Lib.hid (fun k (hk : k ≤ t) => show L16 (s * 2 ^ k) ≤ 129 from L16_2049 (HS.out.le (Nat.le_trans (Nat.mul_le_mul_left _ (Nat.pow_le_pow_right (by omega) hk)) HGL.out)))
        have hs0 := HSB.out 0 (Nat.zero_le _)
        rw [Nat.pow_zero, Nat.mul_one] at hs0
        clear hs hc6 hf6 hb6 HC1 HC2 BO HG HSL HGL
        go_wp2
        go_loopw [9, 10] (fun sl si wr => ∃ (k : Nat) (D1 : Option Addr) (c1 : Nat), k ≤ t ∧ si = .int .i64 (k : Int) ∧ sl = .slice D1 (L16 (s * 2 ^ k)) c1 ∧ L16 (s * 2 ^ k) ≤ c1 ∧ Hid (Cells wr D1 (L16 (s * 2 ^ k)) (Dg (d16 (s * 2 ^ k)))) ∧ Hid (Bo w wr (.slice D n c) (.slice E m c') (.slice none 0 0))) (fun _ si _ => t - (intOf si).toNat)
        case atStart => exact ⟨0, D6, c6, Nat.zero_le _, rfl, by rw [Nat.pow_zero, Nat.mul_one], by rw [Nat.pow_zero, Nat.mul_one]; exact hl6, by rw [Nat.pow_zero, Nat.mul_one]; exact HC6, BO6⟩
        case round =>
          obtain ⟨k, D1, c1, hk, rfl, rfl, hlc, HCk, BOk⟩ := hrel
          have hkl := HSB.out k hk
          by_cases hkt : k < t
          · go_wp2_with fail
            refine (radd_any (x := s * 2 ^ k) (y := s * 2 ^ k) (by omega) (by omega) rfl rfl HCk.out HCk.out).mono ?_
            rintro e w7 ⟨D7, c7, rfl, hl7, hc7, hf7, hb7⟩
            have e2 : s * 2 ^ k + s * 2 ^ k = s * 2 ^ (k + 1) := by rw [Nat.pow_succ, ← Nat.mul_assoc]; omega
            rw [e2] at hl7 hc7 ⊢
            have HC7 := Lib.hid hc7
            have BO7 := Lib.hid (BOk.out.on hb7)
            clear e2 hc7 hf7 hb7
            go_wp2
            go_roundw
            case rel => exact ⟨k + 1, D7, c7, by omega, by go_num, rfl, hl7, HC7, BO7⟩
            case measure => simp [intOf]; omega
          · obtain rfl : k = t := by omega
            obtain ⟨q0, q1, q2, f2, hlt⟩ := BOk.out.facts
            rw [HE.out] at hlc HCk hkl ⊢
            have hg64 := HG64.out
            obtain ⟨d, hd⟩ : ∃ d, d = Nat.gcd x y := ⟨_, rfl⟩
            rw [← hd] at hlc HCk hkl hg64 ⊢
            have HDD := Lib.hid hd
            clear hd hkt
            go_wp2_with fail
            refine (whole_yes (x := d) (by omega) hlc (fit16_len _) HCk.out hg64).mono ?_
            rintro e w8 ⟨D8, c8, rfl, hl8, hc8, hf8, hb8⟩
            clear q0 q1 q2 f2
            have BO8 := Lib.hid ((BOk.out.on hb8).on (bl_alloc (Below.refl _ _) (.cells #[.slice D8 (L32 d) c8] 32)))
            have BX8 := Lib.hid (Blk.new w8 32 #[.slice D8 (L32 d) c8])
            have HF8 := Lib.hid (hf8.mono (Nat.succ_le_of_lt hlt))
            have HC8 := Lib.hid (hc8.alloc (.cells #[.slice D8 (L32 d) c8] 32))
            clear hb8 hc8 hf8 BOk HCk
            obtain ⟨q0, q1, q2, f2, hlt8⟩ := BO8.out.facts
            have r0 : (w8.alloc (.cells #[.slice D8 (L32 d) c8] 32)).cell? ⟨w8.heap.size, 0, none⟩ = some (.slice D8 (L32 d) c8) := BX8.out.cell 0
            obtain ⟨l, hl⟩ : ∃ l, l = L32 d := ⟨_, rfl⟩
            rw [← hl] at hl8 HC8 BO8 BX8 r0 q0 q1 q2 f2 ⊢
            have HL := Lib.hid hl
            clear hl hg64
            go_wp2
            refine bodyPost_ret (v := .tuple #[natv D8 l c8, .int .i64 0]) (by unfold natv; simp [results, Try.results75, go_sem, q2]) rfl ?_
            rw [← HDD.out]
            refine ⟨D8, c8, by rw [← HL.out]; rfl, by rw [← HL.out]; exact hl8, by rw [← HL.out]; exact HC8.out.set_ HF8.out (Nat.lt_succ_self _) _ _, HF8.out.mono (by omega), BO8.out.below.setCell (p := ⟨w.heap.size + 1 + 1, 0, none⟩) (by simp; omega) _⟩
    · obtain rfl : x' = 0 := by omega
      have hz : L16 0 = 0 := L16_zero.2 rfl
      rw [hz] at HC1 ⊢
      have HZ := Lib.hid hz
      have HE := Lib.hid (gst_end HG.out (.inl rfl))
      clear hz hx0
      go_wp2_with fail
      refine (radd_any (x := 0) (y := y') (by omega) (by omega) HZ.out.symm rfl HC1.out HC2.out).mono ?_
      rintro e w6 ⟨D6, c6, rfl, hl6, hc6, hf6, hb6⟩
      have HSL := Lib.hid (gst_le HG.out)
      have HGL := Lib.hid HG.out.2.1
      obtain ⟨s, hs⟩ : ∃ s, s = 0 + y' := ⟨_, rfl⟩
      rw [← hs] at hl6 hc6 HE HSL HGL ⊢
      have HC6 := Lib.hid hc6
      have BO6 := Lib.hid (BO.out.on hb6)
      have HSB := Lib.hid (fun k (hk : k ≤ t) => show L16 (s * 2 ^ k) ≤ 129 from L16_2049 (HS.out.le (Nat.le_trans (Nat.mul_le_mul_left _ (Nat.pow_le_pow_right (by omega) hk)) HGL.out)))
      have hs0 := HSB.out 0 (Nat.zero_le _)
      rw [Nat.pow_zero, Nat.mul_one] at hs0
      clear hs hc6 hf6 hb6 HC1 HC2 BO HG HSL HGL
      go_wp2
      go_loopw [9, 10] (fun sl si wr => ∃ (k : Nat) (D1 : Option Addr) (c1 : Nat), k ≤ t ∧ si = .int .i64 (k : Int) ∧ sl = .slice D1 (L16 (s * 2 ^ k)) c1 ∧ L16 (s * 2 ^ k) ≤ c1 ∧ Hid (Cells wr D1 (L16 (s * 2 ^ k)) (Dg (d16 (s * 2 ^ k)))) ∧ Hid (Bo w wr (.slice D n c) (.slice E m c') (.slice none 0 0))) (fun _ si _ => t - (intOf si).toNat)
      case atStart => exact ⟨0, D6, c6, Nat.zero_le _, rfl, by rw [Nat.pow_zero, Nat.mul_one], by rw [Nat.pow_zero, Nat.mul_one]; exact hl6, by rw [Nat.pow_zero, Nat.mul_one]; exact HC6, BO6⟩
      case round =>
        obtain ⟨k, D1, c1, hk, rfl, rfl, hlc, HCk, BOk⟩ := hrel
        have hkl := HSB.out k hk
        by_cases hkt : k < t
        · go_wp2_with fail
          refine (radd_any (x := s * 2 ^ k) (y := s * 2 ^ k) (by omega) (by omega) rfl rfl HCk.out HCk.out).mono ?_
          rintro e w7 ⟨D7, c7, rfl, hl7, hc7, hf7, hb7⟩
          have e2 : s * 2 ^ k + s * 2 ^ k = s * 2 ^ (k + 1) := by rw [Nat.pow_succ, ← Nat.mul_assoc]; omega
          rw [e2] at hl7 hc7 ⊢
          have HC7 := Lib.hid hc7
          have BO7 := Lib.hid (BOk.out.on hb7)
          clear e2 hc7 hf7 hb7
          go_wp2
          go_roundw
          case rel => exact ⟨k + 1, D7, c7, by omega, by go_num, rfl, hl7, HC7, BO7⟩
          case measure => simp [intOf]; omega
        · obtain rfl : k = t := by omega
          obtain ⟨q0, q1, q2, f2, hlt⟩ := BOk.out.facts
          rw [HE.out] at hlc HCk hkl ⊢
          have hg64 := HG64.out
          obtain ⟨d, hd⟩ : ∃ d, d = Nat.gcd x y := ⟨_, rfl⟩
          rw [← hd] at hlc HCk hkl hg64 ⊢
          have HDD := Lib.hid hd
          clear hd hkt
          go_wp2_with fail
          refine (whole_yes (x := d) (by omega) hlc (fit16_len _) HCk.out hg64).mono ?_
          rintro e w8 ⟨D8, c8, rfl, hl8, hc8, hf8, hb8⟩
          clear q0 q1 q2 f2
          have BO8 := Lib.hid ((BOk.out.on hb8).on (bl_alloc (Below.refl _ _) (.cells #[.slice D8 (L32 d) c8] 32)))
          have BX8 := Lib.hid (Blk.new w8 32 #[.slice D8 (L32 d) c8])
          have HF8 := Lib.hid (hf8.mono (Nat.succ_le_of_lt hlt))
          have HC8 := Lib.hid (hc8.alloc (.cells #[.slice D8 (L32 d) c8] 32))
          clear hb8 hc8 hf8 BOk HCk
          obtain ⟨q0, q1, q2, f2, hlt8⟩ := BO8.out.facts
          have r0 : (w8.alloc (.cells #[.slice D8 (L32 d) c8] 32)).cell? ⟨w8.heap.size, 0, none⟩ = some (.slice D8 (L32 d) c8) := BX8.out.cell 0
          obtain ⟨l, hl⟩ : ∃ l, l = L32 d := ⟨_, rfl⟩
          rw [← hl] at hl8 HC8 BO8 BX8 r0 q0 q1 q2 f2 ⊢
          have HL := Lib.hid hl
          clear hl hg64
          go_wp2
          refine bodyPost_ret (v := .tuple #[natv D8 l c8, .int .i64 0]) (by unfold natv; simp [results, Try.results75, go_sem, q2]) rfl ?_
          rw [← HDD.out]
          refine ⟨D8, c8, by rw [← HL.out]; rfl, by rw [← HL.out]; exact hl8, by rw [← HL.out]; exact HC8.out.set_ HF8.out (Nat.lt_succ_self _) _ _, HF8.out.mono (by omega), BO8.out.below.setCell (p := ⟨w.heap.size + 1 + 1, 0, none⟩) (by simp; omega) _⟩
end Go.Proofs.Ytiflmnmkmpjecaa
