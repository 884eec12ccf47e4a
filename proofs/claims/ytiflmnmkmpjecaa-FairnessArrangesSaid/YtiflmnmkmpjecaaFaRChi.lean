/- The walk of the reference's ChiSquare (55). -/
import Derived.Test.YtiflmnmkmpjecaaG14
import Derived.Test.YtiflmnmkmpjecaaG12
import Derived.Test.YtiflmnmkmpjecaaFrRSums
import Derived.Test.YtiflmnmkmpjecaaG4
set_option linter.unusedVariables false
namespace Go.Proofs.Ytiflmnmkmpjecaa
open Go.RowKit
namespace Fr
section
variable {xn xd yn yd K L : Nat} {w : World} {D0 D1 D2 D3 : Option Addr} {n0 n1 n2 n3 c0 c1 c2 c3 : Nat}
theorem radd_s (a : FrS w D0 n0 D1 n1 xn xd K) (b : FrS w D2 n2 D3 n3 yn yd L) (hK : K + L + 1 ≤ 64) :
    Calls Try.prog 18 #[.agg #[.slice D0 n0 c0, .slice D1 n1 c1], .agg #[.slice D2 n2 c2, .slice D3 n3 c3]] w fun e w' => RS w.heap.size w' e (K + L + 1) (xn * yd + yn * xd) (xd * yd) ∧ Below w.heap.size w w' := by
  have f1 : Fit32 (xn * yd) (K + L) := fit32_mul a.kx b.ky
  have f2 : Fit32 (yn * xd) (K + L) := by rw [Nat.add_comm K L]; exact fit32_mul b.kx a.ky
  have f3 : Fit32 (xd * yd) (K + L) := fit32_mul a.ky b.ky
  have f4 := fit_add f1 f2
  refine (radd_ok a.num.n64 a.num.m64 b.num.n64 b.num.m64 a.num.nx a.num.my b.num.nx b.num.my a.num.cx a.num.cy b.num.cx b.num.cy a.num.ok b.num.ok).mono ?_
  rintro e w' ⟨⟨_, h⟩ | ⟨h, _⟩, hb⟩
  · exact ⟨rs_of h (Nat.mul_pos (fok_pos a.num.ok) (fok_pos b.num.ok)) f4 (fit32_mono f3 (by omega)) hK, hb⟩
  · exact absurd ⟨Nat.le_trans (fit32_le f1) (by omega), Nat.le_trans (fit32_le f2) (by omega), Nat.le_trans (fit32_le f3) (by omega), Nat.le_trans (fit32_le f4) hK⟩ h
end
end Fr
namespace Fa
open Fr
theorem sz {a w : World} (h : Hid (Below a.heap.size a w)) : a.heap.size ≤ w.heap.size := h.out.size
theorem put2 {w : World} {g : Nat} {t : TypeId} {a b : Value} (h : Blk w g t #[.slice none 0 0, .slice none 0 0]) : Blk ((w.setCell ⟨g, 0, none⟩ a).setCell ⟨g, 1, none⟩ b) g t #[a, b] := (h.set_ 0 a).set_ 1 b
theorem kb_use {v : World} {g : Nat} {P : Prop} (h : Blk v g TF #[.slice none 0 0, .slice none 0 0]) (k : (v.cell? ⟨g, 0, none⟩ = some (.slice none 0 0) ∧ v.cell? ⟨g, 1, none⟩ = some (.slice none 0 0) ∧ v.frozen? ⟨g, 0, none⟩ = false ∧ v.frozen? ⟨g, 1, none⟩ = false ∧ g < v.heap.size) → P) : P := k ⟨h.cell 0, h.cell 1, h.frozen 0, h.frozen 1, h.lt⟩
theorem hal {a w : World} (h : Hid (Below a.heap.size a w)) (o : Obj) : Hid (Below a.heap.size a (w.alloc o)) := Lib.hid (bl_alloc h.out o)
/-- The terms' distance from what is expected. -/
def dd (o p : Nat → Nat) (ns W i : Nat) : Nat := if o i * W < ns * p i then ns * p i - o i * W else o i * W - ns * p i
/-- The reference's sums, as numerator and denominator. -/
def RN (o p : Nat → Nat) (ns W : Nat) : Nat → Nat × Nat
  | 0 => (0, 1)
  | i + 1 => ((RN o p ns W i).1 * (ns * p i * W) + dd o p ns W i * dd o p ns W i * (RN o p ns W i).2, (RN o p ns W i).2 * (ns * p i * W))
theorem one_s (w : World) {n : Nat} (hn : n ≤ 1000) :
    Calls Try.prog 40 #[.int .i64 (n : Int)] w fun e w' => (∃ (D : Option Addr) (l c : Nat) (E : Option Addr) (m c' r s : Nat), e = .returned (.agg #[.slice D l c, .slice E m c']) ∧ FrS w' D l E m r s 2 ∧ Rep r s n 1 ∧ Fresh w.heap.size D ∧ Fresh w.heap.size E) ∧ Below w.heap.size w w' := by
  refine (one55_any w (n := n) (by omega)).mono ?_
  rintro e w' ⟨⟨Da, ca, Db, cb', rfl, h1, h2, h3, h4⟩, hb⟩
  have f1 : Fit32 (n / Nat.gcd n 1) 2 := fit_of (Nat.lt_of_le_of_lt (Nat.div_le_self _ _) (by omega))
  have f2 : Fit32 (1 / Nat.gcd n 1) 2 := fit_of (Nat.lt_of_le_of_lt (Nat.div_le_self _ _) (by omega))
  exact ⟨⟨Da, _, ca, Db, _, cb', _, _, rfl, ⟨⟨Nat.le_trans (fit32_le f1) (by omega), Nat.le_trans (fit32_le f2) (by omega), rfl, rfl, h1, h2, fok_low (by omega)⟩, f1, f2⟩, Rep.red (by omega), h3, h4⟩, hb⟩
theorem boxC (w : World) : Bs w (w.alloc (.cells #[.slice none 0 0, .slice none 0 0] TF)) [(w.heap.size, TF, #[.slice none 0 0, .slice none 0 0])] := (Bs.nil w).alloc TF #[.slice none 0 0, .slice none 0 0]
set_option maxHeartbeats 2000000 in
theorem rchi_bad {w : World} {A B : Option Addr} {n m c c' : Nat} {x y v : Int} (hv : v ≠ 0)
    (hk : ∀ w', Below w.heap.size w w' → Calls Try.prog 39 #[.slice A n c, .slice B m c'] w' fun e w'' => e = .returned (.tuple #[.int .i64 x, .int .i64 y, .int .i64 v]) ∧ Below w'.heap.size w' w'') :
    Calls Try.prog 16 #[.slice A n c, .slice B m c'] w fun e w' => e = .returned (.tuple #[fv none 0 0 none 0 0, .int .i64 v]) ∧ Below w.heap.size w w' := by
  have BS0 := Lib.hid (boxC w)
  have HK := Lib.hid hk
  have hv0 : (v != 0) = true := by simpa using hv
  clear hk hv
  go_enter Try.func16, Try.ntmps16
  go_wp2_with fail
  refine (HK.out _ BS0.out.below).mono ?_
  rintro e w1 ⟨rfl, hb⟩
  have bs := BS0.out.on hb
  obtain ⟨z, hz⟩ : ∃ z, z = w.heap.size := ⟨_, rfl⟩
  rw [← hz] at bs
  rw [show (Value.pointer (some ⟨w.heap.size, 0, none⟩)) = .pointer (some ⟨z, 0, none⟩) by rw [hz]]
  have hzw : w.heap.size ≤ z := by omega
  obtain ⟨_, lz, kz⟩ := bs.get (.head _)
  have HB := Lib.hid bs.below
  have r0 : w1.cell? ⟨z, 0, none⟩ = some (.slice none 0 0) := kz.cell 0
  have r1 : w1.cell? ⟨z, 1, none⟩ = some (.slice none 0 0) := kz.cell 1
  have f0 : w1.frozen? ⟨z, 0, none⟩ = false := kz.frozen 0
  have f1 : w1.frozen? ⟨z, 1, none⟩ = false := kz.frozen 1
  clear bs kz hz hb
  go_wp2
  refine bodyPost_ret (v := .tuple #[fv none 0 0 none 0 0, .int .i64 v]) (by unfold fv; simp [results, Try.results16, go_sem, r0, r1]) rfl ?_
  exact ⟨rfl, bse (bse HB.out hzw _ _) hzw _ _⟩
set_option maxHeartbeats 16000000 in
set_option maxRecDepth 100000 in
theorem rchi_ok {w : World} {A B : Option Addr} {n c c' ns W : Nat} {o p : Nat → Nat} (hn0 : 0 < n) (hn : n ≤ 12) (hA : Cells w A n (Dg o)) (hB : Cells w B n (Dg p)) (ho : ∀ i, i < n → o i ≤ 1000000) (hp : ∀ i, i < n → 0 < p i ∧ p i ≤ 1000000) (hns0 : 0 < ns) (hns1 : ns ≤ 12000000) (hW0 : 0 < W) (hW1 : W ≤ 12000000)
    (hk : ∀ w', Below w.heap.size w w' → Calls Try.prog 39 #[.slice A n c, .slice B n c'] w' fun e w'' => e = .returned (.tuple #[.int .i64 (ns : Int), .int .i64 (W : Int), .int .i64 0]) ∧ Below w'.heap.size w' w'') :
    Calls Try.prog 16 #[.slice A n c, .slice B n c'] w fun e w' => RS w.heap.size w' e (4 * n + 2) (RN o p ns W n).1 (RN o p ns W n).2 ∧ Below w.heap.size w w' := by
  have BS0 := Lib.hid (boxC w)
  have HK := Lib.hid hk
  have HA := Lib.hid hA
  have HB := Lib.hid hB
  have HO := Lib.hid ho
  have HP := Lib.hid hp
  have HN0 := Lib.hid hns0
  have HW0 := Lib.hid hW0
  have HNS := Lib.hid hns1
  have HWW := Lib.hid hW1
  clear hk hA hB ho hp hns0 hW0 hns1 hW1
  go_enter Try.func16, Try.ntmps16
  go_wp2_with fail
  refine (HK.out _ BS0.out.below).mono ?_
  rintro e w1 ⟨rfl, hb⟩
  obtain ⟨z, hz⟩ : ∃ z, z = w.heap.size := ⟨_, rfl⟩
  have bs1 := BS0.out.on hb
  have hzw : w.heap.size ≤ z := by omega
  rw [← hz] at bs1
  have BS1 := Lib.hid bs1
  rw [show (Value.pointer (some ⟨w.heap.size, 0, none⟩)) = .pointer (some ⟨z, 0, none⟩) by rw [hz]]
  clear hz hb bs1 BS0
  go_wp2_with fail
  refine (one_s w1 (n := 0) (by omega)).mono ?_
  rintro e w2 ⟨⟨D0, l0, d0, E0, m0, k0, r0, s0, rfl, h0, g0, fx0, fy0⟩, hb⟩
  have BQ := BS1.out.on hb
  have bs2 := BQ.alloc TF #[.slice D0 l0 d0, .slice E0 m0 k0]
  obtain ⟨sb, hsb⟩ : ∃ z, z = w2.heap.size := ⟨_, rfl⟩
  have hsz : z < sb := by have := (BQ.get (.head _)).2.1; omega
  have hsw : w.heap.size ≤ sb := by omega
  have HF0 := Lib.hid (h0.below (bl_box (o := .cells #[.slice D0 l0 d0, .slice E0 m0 k0] TF)))
  have HX0 := Lib.hid (show Fresh (z + 1) D0 ∧ Fresh (z + 1) E0 from ⟨fx0.mono (BS1.out.get (.head _)).2.1, fy0.mono (BS1.out.get (.head _)).2.1⟩)
  rw [← hsb] at bs2
  obtain ⟨wa, hwa⟩ : ∃ wa, wa = w2.alloc (.cells #[.slice D0 l0 d0, .slice E0 m0 k0] TF) := ⟨_, rfl⟩
  rw [← hwa] at bs2 HF0
  have BS2 := Lib.hid bs2
  have HG0 := Lib.hid g0
  clear hb BQ bs2 h0 g0 fx0 fy0 BS1
  go_wp2
  change Code.wp _ _ _ _ (w2.alloc (.cells #[.slice D0 l0 d0, .slice E0 m0 k0] TF))
  rw [← hwa]
  rw [show (Value.pointer (some ⟨w2.heap.size, 0, none⟩)) = .pointer (some ⟨sb, 0, none⟩) by rw [hsb]]
  clear hwa hsb
  go_loopw [10] (fun s10 wr => ∃ (k : Nat) (D : Option Addr) (l d : Nat) (E : Option Addr) (m d' r s : Nat), k ≤ n ∧ s10 = .int .i64 (k : Int) ∧ Hid (FrS wr D l E m r s (4 * k + 2)) ∧ Hid (Rep r s (RN o p ns W k).1 (RN o p ns W k).2) ∧ Hid (Fresh (z + 1) D ∧ Fresh (z + 1) E) ∧ Hid (Bs w wr [(sb, TF, #[.slice D l d, .slice E m d']), (z, TF, #[.slice none 0 0, .slice none 0 0])])) (fun i _ => n - (intOf i).toNat)
  case atStart => exact ⟨0, D0, l0, d0, E0, m0, k0, r0, s0, Nat.zero_le _, rfl, HF0, HG0, HX0, BS2⟩
  case round =>
    clear HF0 HG0 HX0 BS2
    obtain ⟨k, D, l, d, E, m, d', r, s, hk, rfl, HF, HG, HFR, HBS⟩ := hrel
    by_cases hkn : k < n
    · have HKN := Lib.hid hkn
      have gk : ((k : Int) < (n : Int)) := by omega
      have i1 : (0 : Int) ≤ (k : Int) := by omega
      obtain ⟨b1, o1, hA1, hlt1, hc1⟩ := (HA.out.below HBS.out.below).dg hkn
      obtain ⟨b4, o4, hB1, hlt4, hc4⟩ := (HB.out.below HBS.out.below).dg hkn
      subst hA1 hB1
      have ho1 := HO.out k hkn
      have hp1 := HP.out k hkn
      have hns9 := HNS.out
      have hW9 := HWW.out
      obtain ⟨x, hx⟩ : ∃ x, x = o k := ⟨_, rfl⟩
      obtain ⟨y, hy⟩ : ∃ y, y = p k := ⟨_, rfl⟩
      rw [← hx] at hc1 ho1
      rw [← hy] at hc4 hp1
      obtain ⟨u, hu⟩ : ∃ u, u = x * W := ⟨_, rfl⟩
      obtain ⟨v, hv⟩ : ∃ v, v = ns * y := ⟨_, rfl⟩
      have hu2 : u ≤ 12000000000000 := by rw [hu]; exact Nat.mul_le_mul ho1 hW9
      have hv2 : v ≤ 12000000000000 := by rw [hv]; exact Nat.mul_le_mul hns9 hp1.2
      have hw1 : IntKind.i64.wrap ((x : Int) * (W : Int)) = (u : Int) := by rw [show (x : Int) * (W : Int) = (u : Int) by rw [hu]; rfl]; exact IntWalk.i64_in _ (by omega)
      have hw2 : IntKind.i64.wrap ((ns : Int) * (y : Int)) = (v : Int) := by rw [show (ns : Int) * (y : Int) = (v : Int) by rw [hv]; rfl]; exact IntWalk.i64_in _ (by omega)
      obtain ⟨df, hdf⟩ : ∃ df, df = (u : Int) - (v : Int) := ⟨_, rfl⟩
      have hw3 : IntKind.i64.wrap ((u : Int) - (v : Int)) = df := by rw [IntWalk.i64_in _ (by omega), hdf]
      obtain ⟨dn, hdn⟩ : ∃ dn, dn = dd o p ns W k := ⟨_, rfl⟩
      have hdn2 : dn = if u < v then v - u else u - v := by rw [hdn, hu, hv, hx, hy]; rfl
      have hdd : (df < 0 ∧ decide (df < 0) = true ∧ IntKind.i64.wrap (-df) = (dn : Int)) ∨ ((df < 0) = False ∧ decide (df < 0) = false ∧ df = (dn : Int)) := by
        by_cases h : u < v
        · rw [if_pos h] at hdn2
          exact .inl ⟨by omega, decide_eq_true (by omega), by rw [IntWalk.i64_in _ (by omega)]; omega⟩
        · rw [if_neg h] at hdn2
          exact .inr ⟨eq_false (by omega), decide_eq_false (by omega), by omega⟩
      have hdn3 : dn ≤ 12000000000000 := by
        by_cases h : u < v
        · rw [if_pos h] at hdn2; omega
        · rw [if_neg h] at hdn2; omega
      obtain ⟨X, hX⟩ : ∃ X, X = dn * dn := ⟨_, rfl⟩
      obtain ⟨Y, hY⟩ : ∃ Y, Y = v * W := ⟨_, rfl⟩
      have hX2 : X ≤ 12000000000000 * 12000000000000 := by rw [hX]; exact Nat.mul_le_mul hdn3 hdn3
      have hY2 : Y ≤ 12000000000000 * 12000000 := by rw [hY]; exact Nat.mul_le_mul hv2 hW9
      have HSTEP : Hid (RN o p ns W (k + 1) = ((RN o p ns W k).1 * Y + X * (RN o p ns W k).2, (RN o p ns W k).2 * Y)) := Lib.hid (by rw [RN, hX, hY, hv, hy, hdn])
      have HY0 : Hid (0 < Y) := Lib.hid (by rw [hY, hv]; exact Nat.mul_pos (Nat.mul_pos HN0.out hp1.1) HW0.out)
      have HFd := Lib.hid (show Fit32 dn 2 from fit_of (by omega))
      have HFn := Lib.hid (show Fit32 ns 2 from fit_of (by omega))
      have HFy := Lib.hid (show Fit32 y 2 from fit_of (by omega))
      have HFv := Lib.hid (show ns * y = v ∧ Fit32 v 2 from ⟨hv.symm, fit_of (by omega)⟩)
      have HFv2 := Lib.hid HFv.out.2
      have HFW := Lib.hid (show Fit32 W 2 from fit_of (by omega))
      have HFX := Lib.hid (show dn * dn = X ∧ Fit32 X 3 from ⟨hX.symm, by unfold Fit32; omega⟩)
      have HFY := Lib.hid (show v * W = Y ∧ Fit32 Y 3 from ⟨hY.symm, by unfold Fit32; omega⟩)
      have HDN := Lib.hid hdn3
      have HYN := Lib.hid hp1.2
      clear hx hy hu hv hdf hdn hdn2 hX hY hX2 hY2 ho1 hp1 hu2 hv2 hdn3 hkn hk
      go_upto_region 8 with (fail)
      go_cut [11] (fun s11 wx => s11 = .int .i64 df ∧ Hid (Below wr.heap.size wr wx))
      case first =>
        go_quiet (fail)
        go_wp2_with fail
        go_meet
        case rel => exact ⟨rfl, Lib.hid (by first | exact Below.refl _ _ | exact (Below.refl _ _).drew | exact below_drewN (Below.refl _ _) _)⟩
      obtain ⟨rfl, HW1⟩ := hcut
      have BSb := Lib.hid (HBS.out.on HW1.out)
      have HFb := Lib.hid (HF.out.below HW1.out)
      have C4 := Lib.hid (((bcell HW1.out).1 _ _ hlt4).trans hc4)
      have T4 := Lib.hid (Nat.lt_of_lt_of_le hlt4 HW1.out.size)
      clear hw1 hw2 hw3 hc1 hlt1 hc4 hlt4 HW1 HBS HF
      rename World => wb
      go_upto_if 46 with (fail)
      go_cut [11] (fun s11 wx => s11 = .int .i64 (dn : Int) ∧ wx = wb)
      case first =>
        rcases hdd with ⟨t0, t1, t2⟩ | ⟨t0, t1, t2⟩
        all_goals
          go_wp2_with fail
          go_meet
          case rel => first | exact ⟨rfl, rfl⟩ | exact ⟨by rw [t2], rfl⟩
      obtain ⟨rfl, hwx⟩ := hcut
      obtain rfl := hwx.symm
      clear hdd
      have HOd : Hid (∀ w', Hid (Below wb.heap.size wb w') → Calls Try.prog 42 #[.int .i64 (dn : Int)] w' fun e w'' => ∃ (D : Option Addr) (l c : Nat), e = .returned (.agg #[.slice D l c]) ∧ Hid (l = L32 dn) ∧ Cells w'' D l (Lm (d32 dn)) ∧ Fresh w'.heap.size D ∧ Below w'.heap.size w' w'' ∧ Hid (Below wb.heap.size wb w'')) := Lib.hid fun w' hw => by
        refine (rof55_any w' (n := dn) (by have := HDN.out; omega)).mono ?_
        rintro e w'' ⟨⟨D, l, c, rfl, h1, h2, h3⟩, hb⟩
        exact ⟨D, l, c, rfl, Lib.hid h1, h2, h3, hb, Lib.hid (Below.on hw.out hb)⟩
      have HOn : Hid (∀ w', Hid (Below wb.heap.size wb w') → Calls Try.prog 42 #[.int .i64 (ns : Int)] w' fun e w'' => ∃ (D : Option Addr) (l c : Nat), e = .returned (.agg #[.slice D l c]) ∧ Hid (l = L32 ns) ∧ Cells w'' D l (Lm (d32 ns)) ∧ Fresh w'.heap.size D ∧ Below w'.heap.size w' w'' ∧ Hid (Below wb.heap.size wb w'')) := Lib.hid fun w' hw => by
        refine (rof55_any w' (n := ns) (by have := HNS.out; omega)).mono ?_
        rintro e w'' ⟨⟨D, l, c, rfl, h1, h2, h3⟩, hb⟩
        exact ⟨D, l, c, rfl, Lib.hid h1, h2, h3, hb, Lib.hid (Below.on hw.out hb)⟩
      have HOy : Hid (∀ w', Hid (Below wb.heap.size wb w') → Calls Try.prog 42 #[.int .i64 (y : Int)] w' fun e w'' => ∃ (D : Option Addr) (l c : Nat), e = .returned (.agg #[.slice D l c]) ∧ Hid (l = L32 y) ∧ Cells w'' D l (Lm (d32 y)) ∧ Fresh w'.heap.size D ∧ Below w'.heap.size w' w'' ∧ Hid (Below wb.heap.size wb w'')) := Lib.hid fun w' hw => by
        refine (rof55_any w' (n := y) (by have := HYN.out; omega)).mono ?_
        rintro e w'' ⟨⟨D, l, c, rfl, h1, h2, h3⟩, hb⟩
        exact ⟨D, l, c, rfl, Lib.hid h1, h2, h3, hb, Lib.hid (Below.on hw.out hb)⟩
      have HOW : Hid (∀ w', Hid (Below wb.heap.size wb w') → Calls Try.prog 42 #[.int .i64 (W : Int)] w' fun e w'' => ∃ (D : Option Addr) (l c : Nat), e = .returned (.agg #[.slice D l c]) ∧ Hid (l = L32 W) ∧ Cells w'' D l (Lm (d32 W)) ∧ Fresh w'.heap.size D ∧ Below w'.heap.size w' w'' ∧ Hid (Below wb.heap.size wb w'')) := Lib.hid fun w' hw => by
        refine (rof55_any w' (n := W) (by have := HWW.out; omega)).mono ?_
        rintro e w'' ⟨⟨D, l, c, rfl, h1, h2, h3⟩, hb⟩
        exact ⟨D, l, c, rfl, Lib.hid h1, h2, h3, hb, Lib.hid (Below.on hw.out hb)⟩
      have HMd : Hid (∀ w' D1 l1 c1 D2 l2 c2, Hid (l1 = L32 dn) → Cells w' D1 l1 (Lm (d32 dn)) → Hid (l2 = L32 dn) → Cells w' D2 l2 (Lm (d32 dn)) → Hid (Below wb.heap.size wb w') → Calls Try.prog 41 #[.agg #[.slice D1 l1 c1], .agg #[.slice D2 l2 c2]] w' fun e w'' => ∃ (D : Option Addr) (l c : Nat), e = .returned (.agg #[.slice D l c]) ∧ Hid (l = L32 X) ∧ Cells w'' D l (Lm (d32 X)) ∧ Fresh w'.heap.size D ∧ Below w'.heap.size w' w'' ∧ Hid (Below wb.heap.size wb w'')) := Lib.hid fun w' D1 l1 c1 D2 l2 c2 hl1 g1 hl2 g2 hw => by
        refine (rmul55_any (x := dn) (y := dn) (by rw [hl1.out]; exact Nat.le_trans (fit32_le HFd.out) (by omega)) (by rw [hl2.out]; exact Nat.le_trans (fit32_le HFd.out) (by omega)) hl1.out hl2.out g1 g2 (by rw [HFX.out.1]; exact Nat.le_trans (fit32_le HFX.out.2) (by omega))).mono ?_
        rintro e w'' ⟨⟨D, l, c, rfl, h3, h4, h5⟩, hb⟩
        rw [HFX.out.1] at h3 h4
        exact ⟨D, l, c, rfl, Lib.hid h3, h4, h5, hb, Lib.hid (Below.on hw.out hb)⟩
      have HMn : Hid (∀ w' D1 l1 c1 D2 l2 c2, Hid (l1 = L32 ns) → Cells w' D1 l1 (Lm (d32 ns)) → Hid (l2 = L32 y) → Cells w' D2 l2 (Lm (d32 y)) → Hid (Below wb.heap.size wb w') → Calls Try.prog 41 #[.agg #[.slice D1 l1 c1], .agg #[.slice D2 l2 c2]] w' fun e w'' => ∃ (D : Option Addr) (l c : Nat), e = .returned (.agg #[.slice D l c]) ∧ Hid (l = L32 v) ∧ Cells w'' D l (Lm (d32 v)) ∧ Fresh w'.heap.size D ∧ Below w'.heap.size w' w'' ∧ Hid (Below wb.heap.size wb w'')) := Lib.hid fun w' D1 l1 c1 D2 l2 c2 hl1 g1 hl2 g2 hw => by
        refine (rmul55_any (x := ns) (y := y) (by rw [hl1.out]; exact Nat.le_trans (fit32_le HFn.out) (by omega)) (by rw [hl2.out]; exact Nat.le_trans (fit32_le HFy.out) (by omega)) hl1.out hl2.out g1 g2 (by rw [HFv.out.1]; exact Nat.le_trans (fit32_le HFv.out.2) (by omega))).mono ?_
        rintro e w'' ⟨⟨D, l, c, rfl, h3, h4, h5⟩, hb⟩
        rw [HFv.out.1] at h3 h4
        exact ⟨D, l, c, rfl, Lib.hid h3, h4, h5, hb, Lib.hid (Below.on hw.out hb)⟩
      have HMv : Hid (∀ w' D1 l1 c1 D2 l2 c2, Hid (l1 = L32 v) → Cells w' D1 l1 (Lm (d32 v)) → Hid (l2 = L32 W) → Cells w' D2 l2 (Lm (d32 W)) → Hid (Below wb.heap.size wb w') → Calls Try.prog 41 #[.agg #[.slice D1 l1 c1], .agg #[.slice D2 l2 c2]] w' fun e w'' => ∃ (D : Option Addr) (l c : Nat), e = .returned (.agg #[.slice D l c]) ∧ Hid (l = L32 Y) ∧ Cells w'' D l (Lm (d32 Y)) ∧ Fresh w'.heap.size D ∧ Below w'.heap.size w' w'' ∧ Hid (Below wb.heap.size wb w'')) := Lib.hid fun w' D1 l1 c1 D2 l2 c2 hl1 g1 hl2 g2 hw => by
        refine (rmul55_any (x := v) (y := W) (by rw [hl1.out]; exact Nat.le_trans (fit32_le HFv2.out) (by omega)) (by rw [hl2.out]; exact Nat.le_trans (fit32_le HFW.out) (by omega)) hl1.out hl2.out g1 g2 (by rw [HFY.out.1]; exact Nat.le_trans (fit32_le HFY.out.2) (by omega))).mono ?_
        rintro e w'' ⟨⟨D, l, c, rfl, h3, h4, h5⟩, hb⟩
        rw [HFY.out.1] at h3 h4
        exact ⟨D, l, c, rfl, Lib.hid h3, h4, h5, hb, Lib.hid (Below.on hw.out hb)⟩
      have HMK : Hid (∀ w' D1 l1 c1 D2 l2 c2, Hid (l1 = L32 X) → Cells w' D1 l1 (Lm (d32 X)) → Hid (l2 = L32 Y) → Cells w' D2 l2 (Lm (d32 Y)) → Hid (Below wb.heap.size wb w') → Calls Try.prog 31 #[.agg #[.slice D1 l1 c1], .agg #[.slice D2 l2 c2]] w' fun e w'' => (∃ (D : Option Addr) (l c : Nat) (E : Option Addr) (m c' r s : Nat), e = .returned (.tuple #[.agg #[.slice D l c, .slice E m c'], .int .i64 0]) ∧ Hid (FrS w'' D l E m r s 3) ∧ Hid (Rep r s X Y) ∧ Fresh w'.heap.size D ∧ Fresh w'.heap.size E) ∧ Below w'.heap.size w' w'' ∧ Hid (Below wb.heap.size wb w'')) := Lib.hid fun w' D1 l1 c1 D2 l2 c2 hl1 k1 hl2 k2 hw => by
        refine (rmake_any (x := X) (y := Y) (by rw [hl1.out]; exact Nat.le_trans (fit32_le HFX.out.2) (by omega)) (by rw [hl2.out]; exact Nat.le_trans (fit32_le HFY.out.2) (by omega)) hl1.out hl2.out k1 k2 HY0.out).mono ?_
        rintro e w'' ⟨hr, hb⟩
        obtain ⟨D, l, c, E, m, c', r, s, rfl, h1, h2, h3, h4⟩ := rs_of hr HY0.out HFX.out.2 HFY.out.2 (by omega)
        exact ⟨⟨D, l, c, E, m, c', r, s, rfl, Lib.hid h1, Lib.hid h2, h3, h4⟩, hb, Lib.hid (Below.on hw.out hb)⟩
      have HALL : Hid (∀ w', Hid (Below wb.heap.size wb w') → w'.cell? ⟨b4, o4 + k, none⟩ = some (.int .i64 (y : Int))) := Lib.hid fun w' hw => ((bcell hw.out).1 _ _ T4.out).trans C4.out
      have A0 : Hid (Below wb.heap.size wb wb.drew) := Lib.hid (Below.refl _ _).drew
      go_upto_region 11 with (fail)
      go_cut [12, 13] (fun s12 s13 wx => ∃ (b : Nat) (D : Option Addr) (l d : Nat) (E : Option Addr) (m d' r s : Nat), s12 = .pointer (some ⟨b, 0, none⟩) ∧ s13 = .int .i64 0 ∧ Hid (Blk wx b TF #[.slice D l d, .slice E m d']) ∧ wb.heap.size ≤ b ∧ Hid (FrS wx D l E m r s 3) ∧ Hid (Rep r s X Y) ∧ Hid (Below wb.heap.size wb wx))
      case first =>
        go_region_held3 (fun w' => w'.cell? ⟨b4, o4 + k, none⟩ = some (.int .i64 (y : Int)))
          (first
            | exact HALL.out _ (by assumption)
            | exact HALL.out _ (hal (by assumption) _)
            | exact HALL.out _ (Lib.hid (bse t9.out (by first | exact Nat.le_refl _ | exact sz (by assumption)) _ _))
            | exact HALL.out _ (Lib.hid (bse (bse t9.out (by first | exact Nat.le_refl _ | exact sz (by assumption)) _ _) (by first | exact Nat.le_refl _ | exact sz (by assumption)) _ _)))
          (first
            | (go_at_call 42; (with_reducible refine (HOd.out _ ?_).mono ?_); (first | assumption | exact hal (by assumption) _); rintro e1 v1 ⟨G1, m1, y1, rfl, hl1, hc1, hf1, hb1, t1⟩; have z1 := hb1.size; try simp only [World.size_alloc] at z1)
            | (go_at_call 41; (with_reducible refine (HMd.out _ _ _ _ _ _ _ ?_ ?_ ?_ ?_ ?_).mono ?_); (first | assumption); (first | assumption | (focus repeat' (first | assumption | refine Cells.alloc ?_ _ | refine Cells.below ?_ (by with_reducible assumption)))); (first | assumption); (first | assumption | (focus repeat' (first | assumption | refine Cells.alloc ?_ _ | refine Cells.below ?_ (by with_reducible assumption)))); (first | assumption | exact hal (by assumption) _); rintro e3 v3 ⟨G3, m3, y3, rfl, hl3, hc3, hf3, hb3, t3⟩; have z3 := hb3.size; try simp only [World.size_alloc] at z3)
            | (go_at_call 42; (with_reducible refine (HOn.out _ ?_).mono ?_); (first | assumption | exact hal (by assumption) _); rintro e4 v4 ⟨G4, m4, y4, rfl, hl4, hc4, hf4, hb4, t4⟩; have z4 := hb4.size; try simp only [World.size_alloc] at z4)
            | (go_at_call 42; (with_reducible refine (HOy.out _ ?_).mono ?_); (first | assumption | exact hal (by assumption) _); rintro e5 v5 ⟨G5, m5, y5, rfl, hl5, hc5, hf5, hb5, t5⟩; have z5 := hb5.size; try simp only [World.size_alloc] at z5)
            | (go_at_call 41; (with_reducible refine (HMn.out _ _ _ _ _ _ _ ?_ ?_ ?_ ?_ ?_).mono ?_); (first | assumption); (first | assumption | (focus repeat' (first | assumption | refine Cells.alloc ?_ _ | refine Cells.below ?_ (by with_reducible assumption)))); (first | assumption); (first | assumption | (focus repeat' (first | assumption | refine Cells.alloc ?_ _ | refine Cells.below ?_ (by with_reducible assumption)))); (first | assumption | exact hal (by assumption) _); rintro e6 v6 ⟨G6, m6, y6, rfl, hl6, hc6, hf6, hb6, t6⟩; have z6 := hb6.size; try simp only [World.size_alloc] at z6)
            | (go_at_call 42; (with_reducible refine (HOW.out _ ?_).mono ?_); (first | assumption | exact hal (by assumption) _); rintro e7 v7 ⟨G7, m7, y7, rfl, hl7, hc7, hf7, hb7, t7⟩; have z7 := hb7.size; try simp only [World.size_alloc] at z7)
            | (go_at_call 41; (with_reducible refine (HMv.out _ _ _ _ _ _ _ ?_ ?_ ?_ ?_ ?_).mono ?_); (first | assumption); (first | assumption | (focus repeat' (first | assumption | refine Cells.alloc ?_ _ | refine Cells.below ?_ (by with_reducible assumption)))); (first | assumption); (first | assumption | (focus repeat' (first | assumption | refine Cells.alloc ?_ _ | refine Cells.below ?_ (by with_reducible assumption)))); (first | assumption | exact hal (by assumption) _); rintro e8 v8 ⟨G8, m8, y8, rfl, hl8, hc8, hf8, hb8, t8⟩; have z8 := hb8.size; try simp only [World.size_alloc] at z8)
            | (go_at_call 31; (with_reducible refine (HMK.out _ _ _ _ _ _ _ ?_ ?_ ?_ ?_ ?_).mono ?_); (first | assumption); (first | assumption | (focus repeat' (first | assumption | refine Cells.alloc ?_ _ | refine Cells.below ?_ (by with_reducible assumption)))); (first | assumption); (first | assumption | (focus repeat' (first | assumption | refine Cells.alloc ?_ _ | refine Cells.below ?_ (by with_reducible assumption)))); (first | assumption | exact hal (by assumption) _); rintro e9 v9 ⟨⟨G9, l9, y9, E9, m9, k9, r9, s9, rfl, h9, g9, fx, fy⟩, hb9, t9⟩; have z9 := hb9.size; (try simp only [World.size_alloc] at z9); (first | (apply kb_use (v := v9); (focus ((repeat' (first | exact Blk.new _ _ _ | refine' Blk.keep ?_ (by with_reducible assumption))); done)); rintro ⟨qz0, qz1, fz0, fz1, lz⟩; (try simp only [World.size_drew] at qz0 qz1 fz0 fz1 lz)) | skip))
            | fail)
        all_goals
          go_wp2_with fail
          go_meet
          case rel =>
            first
              | exact ⟨_, G9, l9, y9, E9, m9, k9, r9, s9, rfl, rfl, Lib.hid (Blk.new _ _ _), sz t9, Lib.hid (h9.out.below bl_box), g9, Lib.hid (bl_alloc t9.out _)⟩
              | (refine ⟨_, G9, l9, y9, E9, m9, k9, r9, s9, rfl, rfl, Lib.hid (put2 ?_), ?_, Lib.hid ((h9.out.set_ fx fy ?_ 0 _).set_ fx fy ?_ 1 _), g9, Lib.hid (bse (bse t9.out ?_ _ _) ?_ _ _)⟩
                 all_goals first
                   | exact Nat.le_refl _
                   | exact sz (by assumption)
                   | (simp only [World.size_alloc, World.size_drew] at *; omega)
                   | (simp only [World.size_alloc] at *; omega)
                   | omega
                   | (focus repeat' (first | exact Blk.new _ _ _ | refine Blk.keep ?_ (by with_reducible assumption))))
      obtain ⟨bt, Dt, lt, dt, Et, mt, kt, rt, st', rfl, rfl, KT, hbt, HT, GT, HW2⟩ := hcut
      rename World => wc
      have BSc := Lib.hid (BSb.out.on HW2.out)
      have HFc := Lib.hid (HFb.out.below HW2.out)
      have q0 : wc.cell? ⟨sb, 0, none⟩ = some (.slice D l d) := (BSc.out.get (.head _)).2.2.cell 0
      have q1 : wc.cell? ⟨sb, 1, none⟩ = some (.slice E m d') := (BSc.out.get (.head _)).2.2.cell 1
      have t0 : wc.cell? ⟨bt, 0, none⟩ = some (.slice Dt lt dt) := KT.out.cell 0
      have t1 : wc.cell? ⟨bt, 1, none⟩ = some (.slice Et mt kt) := KT.out.cell 1
      have ls := (BSc.out.get (.head _)).2.1
      have lt' := KT.out.lt
      clear HW2 hbt BSb HFb HOd HOn HOy HOW HMd HMn HMv HMK HALL A0 C4 T4
      have hk12 : 4 * k + 2 + 3 + 1 ≤ 64 := by have := HKN.out; omega
      go_wp2_with fail
      refine (radd_s HFc.out HT.out hk12).mono ?_
      rintro e w4 ⟨⟨D4, l4, d4, E4, m4, k4, r4, s4, rfl, h4, g4, fx4, fy4⟩, hb⟩
      have BS4 := Lib.hid (BSc.out.on hb)
      have F4 := Lib.hid h4
      have G4 := Lib.hid (show Rep r4 s4 (RN o p ns W (k + 1)).1 (RN o p ns W (k + 1)).2 by rw [HSTEP.out]; exact HG.out.add GT.out g4)
      have FX := Lib.hid fx4
      have FY := Lib.hid fy4
      have LS := Lib.hid ls
      have LZ := Lib.hid (BSc.out.get (.tail _ (.head _))).2.1
      clear hb q0 q1 t0 t1 ls lt' KT HT GT BSc HFc HG h4 g4 fx4 fy4
      obtain ⟨_, ls, ks⟩ := BS4.out.get (.head _)
      have q0 : w4.cell? ⟨sb, 0, none⟩ = some (.slice D l d) := ks.cell 0
      have q1 : w4.cell? ⟨sb, 1, none⟩ = some (.slice E m d') := ks.cell 1
      have f0 : w4.frozen? ⟨sb, 0, none⟩ = false := ks.frozen 0
      have f1 : w4.frozen? ⟨sb, 1, none⟩ = false := ks.frozen 1
      clear ks
      go_wp2
      go_roundw
      case rel =>
        refine ⟨k + 1, D4, l4, d4, E4, m4, k4, r4, s4, by have := HKN.out; omega, by go_num, ?_, G4, Lib.hid ⟨FX.out.mono LZ.out, FY.out.mono LZ.out⟩, ?_⟩
        · rw [show 4 * (k + 1) + 2 = 4 * k + 2 + 3 + 1 by omega]
          exact Lib.hid ((F4.out.set_ FX.out FY.out LS.out 0 _).set_ FX.out FY.out LS.out 1 _)
        · refine Lib.hid (Bs.put (cs := #[.slice D4 l4 d4, .slice E m d']) (Bs.put (cs := #[.slice D l d, .slice E m d']) BS4.out ?_ 0 _) ?_ 1 _)
          all_goals
            intro b' t' cs' hb
            simp at hb
            omega
      case measure => have := HKN.out; simp [intOf] <;> omega
    · obtain rfl : k = n := by omega
      have gk : ((k : Int) < (k : Int)) = False := eq_false (by omega)
      have q0 : wr.cell? ⟨sb, 0, none⟩ = some (.slice D l d) := (HBS.out.get (.head _)).2.2.cell 0
      have q1 : wr.cell? ⟨sb, 1, none⟩ = some (.slice E m d') := (HBS.out.get (.head _)).2.2.cell 1
      obtain ⟨_, lz, kz⟩ := HBS.out.get (.tail _ (.head _))
      have z0 : wr.cell? ⟨z, 0, none⟩ = some (.slice none 0 0) := kz.cell 0
      have z1 : wr.cell? ⟨z, 1, none⟩ = some (.slice none 0 0) := kz.cell 1
      have f0 : wr.frozen? ⟨z, 0, none⟩ = false := kz.frozen 0
      have f1 : wr.frozen? ⟨z, 1, none⟩ = false := kz.frozen 1
      have HB7 := Lib.hid HBS.out.below
      clear kz hk hkn
      go_wp2
      refine bodyPost_ret (v := .tuple #[.agg #[.slice D l d, .slice E m d'], .int .i64 0]) (by simp [results, Try.results16, go_sem, z0, z1]) rfl ?_
      refine ⟨⟨D, l, d, E, m, d', r, s, rfl, ?_, HG.out, HFR.out.1.mono (by omega), HFR.out.2.mono (by omega)⟩, bse (bse HB7.out hzw _ _) hzw _ _⟩
      exact (HF.out.set_ HFR.out.1 HFR.out.2 (Nat.lt_succ_self z) 0 _).set_ HFR.out.1 HFR.out.2 (Nat.lt_succ_self z) 1 _
end Fa
end Go.Proofs.Ytiflmnmkmpjecaa
