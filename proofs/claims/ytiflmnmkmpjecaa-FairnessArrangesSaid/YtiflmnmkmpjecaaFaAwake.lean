/- The walks of the law's same, is and awake. -/
import Derived.Test.YtiflmnmkmpjecaaG5
import Derived.Test.YtiflmnmkmpjecaaG4
import Derived.Test.YtiflmnmkmpjecaaG14
import Derived.Test.YtiflmnmkmpjecaaFrRMake
set_option linter.unusedVariables false
namespace Go.Proofs.Ytiflmnmkmpjecaa
open Go.RowKit
namespace Fa
open Fr
theorem boxF1 (w : World) (S T : Value) : Bs w (w.alloc (.cells #[S, T] TF)) [(w.heap.size, TF, #[S, T])] := (Bs.nil w).alloc TF #[S, T]
set_option maxHeartbeats 2000000 in
theorem same_true {A B : Option Addr} {n c c' : Nat} {f : Nat → Nat} {w : World} (hn : n ≤ 1000000) (hA : Cells w A n (Dg f)) (hB : Cells w B n (Dg f)) :
    Calls Try.prog 14 #[.slice A n c, .slice B n c'] w fun e w' => e = .returned (.bool true) ∧ Below w.heap.size w w' := by
  have h0 : ((n : Int) != (n : Int)) = false := by simp
  go_enter Try.func14, Try.ntmps14
  go_wp2
  go_loopw [13] (fun i wr => ∃ k : Nat, k ≤ n ∧ i = .int .i64 (k : Int) ∧ Hid (Below w.heap.size w wr)) (fun i _ => n - (intOf i).toNat)
  case atStart => exact ⟨0, Nat.zero_le _, rfl, Below.refl _ _⟩
  case round =>
    obtain ⟨k, hk, rfl, HB⟩ := hrel
    by_cases hkn : k < n
    · obtain ⟨b1, o1, rfl, hlt1, hc1⟩ := (hA.below HB.out).dg hkn
      obtain ⟨b2, o2, rfl, hlt2, hc2⟩ := (hB.below HB.out).dg hkn
      have e1 : ((f k : Int) != (f k : Int)) = false := by simp
      have e2 : (f k != f k) = false := by simp
      go_wp2
      go_quiet (fail)
      go_wp2
      go_roundw
      case rel => exact ⟨k + 1, by omega, by go_num, below_drewN HB.out _⟩
      case measure => simp [intOf]; omega
    · obtain rfl : k = n := by omega
      go_wp2
      go_ret
      exact ⟨rfl, HB.out⟩
/-- A call that makes the fraction a / b. -/
def Fx (w' : World) (e : Ending) (a b : Nat) : Prop :=
  ∃ (D : Option Addr) (l c : Nat) (E : Option Addr) (m c' : Nat), e = .returned (.tuple #[.agg #[.slice D l c, .slice E m c'], .int .i64 0]) ∧ l ≤ 64 ∧ m ≤ 64 ∧ l = L32 a ∧ m = L32 b ∧ Cells w' D l (Lm (d32 a)) ∧ Cells w' E m (Lm (d32 b))
theorem len1 {a : Nat} (h : a < 4294967296) : L32 a ≤ 64 := Nat.le_trans (fit32_le (N := a) (n := 1) (by unfold Fit32; exact h)) (by omega)
theorem Fx.of_res {B : Nat} {w' : World} {e : Ending} {p q a b : Nat} (h : Res B w' e p q) (hp : p = a) (hq : q = b) (ha : a < 4294967296) (hb : b < 4294967296) : Fx w' e a b := by
  subst hp hq
  obtain ⟨D, c, E, c', rfl, _, _, h1, h2, _, _⟩ := h
  exact ⟨D, _, c, E, _, c', rfl, len1 ha, len1 hb, rfl, rfl, h1, h2⟩
theorem Fx.of_rs {B : Nat} {w' : World} {e : Ending} {K N D a b : Nat} (h : RS B w' e K N D) (hab : fok a b = true) (hN : N * b = a * D) (ha : a < 4294967296) (hb : b < 4294967296) : Fx w' e a b := by
  obtain ⟨D1, l, c, E, m, c', r, s, rfl, hf, hr, _, _⟩ := h
  obtain ⟨rfl, rfl⟩ := hr.same (Rep.self (fok_pos hab)) hf.num.ok hab hN
  exact ⟨D1, l, c, E, m, c', rfl, hf.num.n64, hf.num.m64, hf.num.nx, hf.num.my, hf.num.cx, hf.num.cy⟩
set_option maxHeartbeats 2000000 in
theorem is_true {D0 D1 : Option Addr} {n0 n1 c0 c1 a b x y : Nat} {w : World} (hn0 : n0 ≤ 64) (hn1 : n1 ≤ 64) (h0 : n0 = L32 a) (h1 : n1 = L32 b) (hx0 : Cells w D0 n0 (Lm (d32 a))) (hx1 : Cells w D1 n1 (Lm (d32 b))) (hx : x < 4294967296) (hy : y < 4294967296) (hy0 : 0 < y) (ha : a = x / Nat.gcd x y) (hb : b = y / Nat.gcd x y) :
    Calls Try.prog 19 #[.agg #[.slice D0 n0 c0, .slice D1 n1 c1], .int .i64 (x : Int), .int .i64 (y : Int)] w fun e w' => e = .returned (.bool true) ∧ Below w.heap.size w w' := by
  have BS0 := Lib.hid (boxF1 w (.slice D0 n0 c0) (.slice D1 n1 c1))
  have HOF := Lib.hid (fun (w' : World) => (rof_ok w' (x := x) (y := y) (by omega) (by omega) hy0).mono fun e w'' ⟨h, hb2⟩ => (⟨Fx.of_res h ha.symm hb.symm (Nat.lt_of_le_of_lt (by rw [ha]; exact Nat.div_le_self _ _) hx) (Nat.lt_of_le_of_lt (by rw [hb]; exact Nat.div_le_self _ _) hy), hb2⟩ : Fx w'' e a b ∧ Below w'.heap.size w' w''))
  have H0 := Lib.hid h0
  have H1 := Lib.hid h1
  have HX0 := Lib.hid hx0
  have HX1 := Lib.hid hx1
  clear h0 h1 hx0 hx1 ha hb hx hy hy0
  go_enter Try.func19, Try.ntmps19
  go_wp2_with fail
  refine (HOF.out _).mono ?_
  rintro e w1 ⟨⟨D2, l2, c2, E2, m2, c3, rfl, k1, k2, hl, hm, hc, hd⟩, hb⟩
  have BQ := Lib.hid (BS0.out.on hb)
  have BS1 := Lib.hid (BQ.out.alloc TF #[.slice D2 l2 c2, .slice E2 m2 c3])
  have C := Lib.hid (hc.alloc (.cells #[.slice D2 l2 c2, .slice E2 m2 c3] TF))
  have G := Lib.hid (hd.alloc (.cells #[.slice D2 l2 c2, .slice E2 m2 c3] TF))
  have HL := Lib.hid hl
  have HM := Lib.hid hm
  obtain ⟨_, lf, kf⟩ := BQ.out.get (.head _)
  have q0 : w1.cell? ⟨w.heap.size, 0, none⟩ = some (.slice D0 n0 c0) := kf.cell 0
  have q1 : w1.cell? ⟨w.heap.size, 1, none⟩ = some (.slice D1 n1 c1) := kf.cell 1
  clear hb hc hd hl hm kf BS0
  have KS := same_any (c0 := c0) (c1 := c1) (c2 := c2) (c3 := c3) (by omega) (by omega) (by omega) (by omega) H0.out H1.out HL.out HM.out (HX0.out.below BS1.out.below) (HX1.out.below BS1.out.below) C.out G.out
  rw [show (decide (a = a) && decide (b = b)) = true by simp] at KS
  unfold fv at KS
  have HKS := Lib.hid KS
  clear KS
  go_wp2_with fail
  refine HKS.out.mono ?_
  rintro e w2 ⟨rfl, hb⟩
  have HB := Lib.hid (BS1.out.on hb).below
  clear hb
  go_wp2
  go_ret
  exact ⟨rfl, HB.out⟩
/-- The draws of the example. -/
def ZA : Nat → Nat → Int := fun r i => if r = 0 then (if i = 0 then 1 else 2) else if r = 1 then (if i = 0 then 2 else 3) else (if i = 0 then 2 else 5)
def two (x y : Nat) : Nat → Nat := fun i => if i = 0 then x else y
theorem cells2 {w : World} {g : Nat} {t : TypeId} {x y : Int} {F : Nat → Value} (hg : g = w.heap.size) (h0 : F 0 = .int .i64 x) (h1 : F 1 = .int .i64 y) : Cells (w.alloc (.cells #[.int .i64 x, .int .i64 y] t)) (some ⟨g, 0, none⟩) 2 F :=
  Cells.lit hg fun j hj => by
    match j, hj with
    | 0, _ => rw [h0]; rfl
    | 1, _ => rw [h1]; rfl
theorem rowsA (w : World) : Rows2 ((((w.alloc (.cells #[.int .i64 1, .int .i64 2] TI)).alloc (.cells #[.int .i64 2, .int .i64 3] TI)).alloc (.cells #[.int .i64 2, .int .i64 5] TI)).alloc (.cells #[.slice (some ⟨w.heap.size, 0, none⟩) 2 2, .slice (some ⟨w.heap.size + 1, 0, none⟩) 2 2, .slice (some ⟨w.heap.size + 1 + 1, 0, none⟩) 2 2] TS)) (some ⟨w.heap.size + 1 + 1 + 1, 0, none⟩) 3 (fun r => some ⟨w.heap.size + r, 0, none⟩) (fun _ => 2) (fun _ => 2) ZA := by
  refine ⟨Cells.lit (by simp only [World.size_alloc]) fun j hj => ?_, fun r hr => ?_⟩
  · match j, hj with
    | 0, _ => rfl
    | 1, _ => rfl
    | 2, _ => rfl
  · match r, hr with
    | 0, _ => exact (((cells2 rfl rfl rfl).alloc _).alloc _).alloc _
    | 1, _ => exact ((cells2 (by simp only [World.size_alloc]) rfl rfl).alloc _).alloc _
    | 2, _ => exact (cells2 (by simp only [World.size_alloc]) rfl rfl).alloc _
theorem chkA {w : World} {A B : Option Addr} {c c' : Nat} (hA : Cells w A 2 (Dg (two 8 12))) (hB : Cells w B 2 (Dg (two 1 1))) : ∀ w', Below w.heap.size w w' → Calls Try.prog 33 #[.slice A 2 c, .slice B 2 c'] w' fun e w'' => e = .returned (.tuple #[.int .i64 ((20 : Nat) : Int), .int .i64 ((2 : Nat) : Int), .int .i64 0]) ∧ Below w'.heap.size w' w'' := fun w' hw => by
  refine (chk_main (o := fun i => (two 8 12 i : Int)) (p := fun i => (two 1 1 i : Int)) (n := 2) (by omega) (by omega) rfl (hA.below hw) (hB.below hw)).mono ?_
  rintro e w'' ⟨⟨h, _⟩ | ⟨_, h, _⟩ | ⟨_, _, _, h⟩, hb⟩
  · exact absurd h (by decide)
  · exact absurd h (by decide)
  · exact ⟨h, hb⟩
theorem TJ (j : Nat) (hj : j ≤ 3) : L32 (1 ^ j) ≤ 64 ∧ L32 ((2 - 1) ^ (3 - j)) ≤ 64 ∧ L32 (1 * 1 ^ j) ≤ 64 ∧ L32 (1 * 1 ^ j * (2 - 1) ^ (3 - j)) ≤ 64 ∧ L32 (tm 3 1 (2 - 1) j) ≤ 64 := by
  match j, hj with
  | 0, _ => exact ⟨len1 (by decide), len1 (by decide), len1 (by decide), len1 (by decide), len1 (by decide)⟩
  | 1, _ => exact ⟨len1 (by decide), len1 (by decide), len1 (by decide), len1 (by decide), len1 (by decide)⟩
  | 2, _ => exact ⟨len1 (by decide), len1 (by decide), len1 (by decide), len1 (by decide), len1 (by decide)⟩
  | 3, _ => exact ⟨len1 (by decide), len1 (by decide), len1 (by decide), len1 (by decide), len1 (by decide)⟩
theorem TS3 (i : Nat) (hi : i ≤ 3 - 2 + 1) : L32 (st 3 1 (2 - 1) 2 i) ≤ 64 := by
  match i, hi with
  | 0, _ => exact len1 (by decide)
  | 1, _ => exact len1 (by decide)
  | 2, _ => exact len1 (by decide)
set_option maxHeartbeats 8000000 in
set_option maxRecDepth 100000 in
theorem awake_any (w : World) : Calls Try.prog 11 #[] w fun e w' => e = .returned (.bool true) ∧ Below w.heap.size w w' := by
  have RA := Lib.hid (rowsA w)
  go_enter Try.func11, Try.ntmps11
  go_wp2_with fail
  refine (freq_main (m := 5) (N := 3) (by omega) (by omega) (by omega) (fun _ _ => by omega) RA.out).mono ?_
  rintro e w1 ⟨⟨_, D1, k1, rfl, hc⟩ | ⟨h, _⟩, hb⟩
  case inr => exact absurd h (by decide)
  have C1 := Lib.hid hc
  have BS1 : Hid (Bs w w1 []) := Lib.hid ⟨Below.on (bl_alloc (bl_alloc (bl_alloc (bl_alloc (Below.refl _ _) _) _) _) _) hb, fun _ _ _ h => by cases h⟩
  clear hc hb RA
  have CA : Hid (Cells ((w1.alloc (.cells #[.int .i64 8, .int .i64 12] TI)).alloc (.cells #[.int .i64 1, .int .i64 1] TI)) (some ⟨w1.heap.size, 0, none⟩) 2 (Dg (two 8 12))) := Lib.hid ((cells2 rfl rfl rfl).alloc _)
  have CB : Hid (Cells ((w1.alloc (.cells #[.int .i64 8, .int .i64 12] TI)).alloc (.cells #[.int .i64 1, .int .i64 1] TI)) (some ⟨w1.heap.size + 1, 0, none⟩) 2 (Dg (two 1 1))) := Lib.hid (cells2 (by simp only [World.size_alloc]) rfl rfl)
  have C1b := Lib.hid ((C1.out.alloc (.cells #[.int .i64 8, .int .i64 12] TI)).alloc (.cells #[.int .i64 1, .int .i64 1] TI))
  have BS1b := Lib.hid (show Bs w ((w1.alloc (.cells #[.int .i64 8, .int .i64 12] TI)).alloc (.cells #[.int .i64 1, .int .i64 1] TI)) [] from ⟨bl_alloc (bl_alloc BS1.out.below _) _, fun _ _ _ h => by cases h⟩)
  clear C1 BS1
  have C1 := C1b
  clear C1b
  go_wp2_with fail
  refine ((chi_ok (n := 2) (ns := 20) (W := 2) (by omega) (by omega) CA.out CB.out (by decide) (by decide) rfl rfl (by omega) (by omega) (by omega) (chkA CA.out CB.out)).mono fun e w' h => (⟨Fx.of_rs (a := 4) (b := 5) h.1 (by decide) (by decide) (by decide) (by decide), h.2⟩ : Fx w' e 4 5 ∧ _)).mono ?_
  rintro e w3 ⟨⟨D3, l3, c3, E3, m3, k3, rfl, a3, b3, hl, hm, hc, hd⟩, hb⟩
  have BQ3 := Lib.hid (BS1b.out.on hb)
  have BS3 := Lib.hid (BQ3.out.alloc TF #[.slice D3 l3 c3, .slice E3 m3 k3])
  have X3 := Lib.hid (hc.alloc (.cells #[.slice D3 l3 c3, .slice E3 m3 k3] TF))
  have Y3 := Lib.hid (hd.alloc (.cells #[.slice D3 l3 c3, .slice E3 m3 k3] TF))
  have L3 := Lib.hid hl
  have M3 := Lib.hid hm
  replace C1 := Lib.hid ((C1.out.below hb).alloc (.cells #[.slice D3 l3 c3, .slice E3 m3 k3] TF))
  clear hb hl hm hc hd BS1b CA CB
  go_wp2_with fail
  refine ((rof_ok _ (x := 1) (y := 2) (by omega) (by omega) (by omega)).mono fun e w' h => (⟨Fx.of_res (a := 1) (b := 2) h.1 (by decide) (by decide) (by decide) (by decide), h.2⟩ : Fx w' e 1 2 ∧ _)).mono ?_
  rintro e w5 ⟨⟨D5, l5, c5, E5, m5, k5, rfl, a5, b5, hl, hm, hc, hd⟩, hb⟩
  have BQ5 := Lib.hid (BS3.out.on hb)
  have BS5 := Lib.hid (BQ5.out.alloc TF #[.slice D5 l5 c5, .slice E5 m5 k5])
  have X5 := Lib.hid (hc.alloc (.cells #[.slice D5 l5 c5, .slice E5 m5 k5] TF))
  have Y5 := Lib.hid (hd.alloc (.cells #[.slice D5 l5 c5, .slice E5 m5 k5] TF))
  have L5 := Lib.hid hl
  have M5 := Lib.hid hm
  replace X3 := Lib.hid ((X3.out.below hb).alloc (.cells #[.slice D5 l5 c5, .slice E5 m5 k5] TF))
  replace Y3 := Lib.hid ((Y3.out.below hb).alloc (.cells #[.slice D5 l5 c5, .slice E5 m5 k5] TF))
  replace C1 := Lib.hid ((C1.out.below hb).alloc (.cells #[.slice D5 l5 c5, .slice E5 m5 k5] TF))
  clear hb hl hm hc hd BS3 BQ3
  have TF0 := fun (w' : World) (hA : Cells w' D5 l5 (Lm (d32 1))) (hB : Cells w' E5 m5 (Lm (d32 2))) => (tail_in (n := 3) (k := 2) (c0 := c5) (c1 := k5) a5 b5 L5.out M5.out hA hB (by decide) (by omega) (by omega) (by omega) (by omega) (len1 (by decide)) (len1 (by decide)) (len1 (by decide)) (fun j hj => TJ j hj) (fun i hi => TS3 i hi)).mono fun e w'' h => (⟨Fx.of_res (a := 1) (b := 2) h.1 (by decide) (by decide) (by decide) (by decide), h.2⟩ : Fx w'' e 1 2 ∧ _)
  unfold fv at TF0
  have HTF := Lib.hid TF0
  clear TF0
  go_wp2_with fail
  refine (HTF.out _ X5.out Y5.out).mono ?_
  rintro e w7 ⟨⟨D7, l7, c7, E7, m7, k7, rfl, a7, b7, hl, hm, hc, hd⟩, hb⟩
  have BQ7 := Lib.hid (BS5.out.on hb)
  have BS7 := Lib.hid (BQ7.out.alloc TF #[.slice D7 l7 c7, .slice E7 m7 k7])
  have X7 := Lib.hid (hc.alloc (.cells #[.slice D7 l7 c7, .slice E7 m7 k7] TF))
  have Y7 := Lib.hid (hd.alloc (.cells #[.slice D7 l7 c7, .slice E7 m7 k7] TF))
  have L7 := Lib.hid hl
  have M7 := Lib.hid hm
  replace X3 := Lib.hid ((X3.out.below hb).alloc (.cells #[.slice D7 l7 c7, .slice E7 m7 k7] TF))
  replace Y3 := Lib.hid ((Y3.out.below hb).alloc (.cells #[.slice D7 l7 c7, .slice E7 m7 k7] TF))
  replace X5 := Lib.hid ((X5.out.below hb).alloc (.cells #[.slice D7 l7 c7, .slice E7 m7 k7] TF))
  replace Y5 := Lib.hid ((Y5.out.below hb).alloc (.cells #[.slice D7 l7 c7, .slice E7 m7 k7] TF))
  replace C1 := Lib.hid ((C1.out.below hb).alloc (.cells #[.slice D7 l7 c7, .slice E7 m7 k7] TF))
  clear hb hl hm hc hd BS5 BQ5 HTF
  go_wp2_with fail
  refine ((runs_any _ (a := 2) (b := 2) 3 (by omega) (by omega)).mono fun e w' h => (⟨Fx.of_res (a := 1) (b := 3) h.1 (by decide) (by decide) (by decide) (by decide), h.2⟩ : Fx w' e 1 3 ∧ _)).mono ?_
  rintro e w9 ⟨⟨D9, l9, c9, E9, m9, k9, rfl, a9, b9, hl, hm, hc, hd⟩, hb⟩
  have BQ9 := Lib.hid (BS7.out.on hb)
  have BS9 := Lib.hid (BQ9.out.alloc TF #[.slice D9 l9 c9, .slice E9 m9 k9])
  have X9 := Lib.hid (hc.alloc (.cells #[.slice D9 l9 c9, .slice E9 m9 k9] TF))
  have Y9 := Lib.hid (hd.alloc (.cells #[.slice D9 l9 c9, .slice E9 m9 k9] TF))
  have L9 := Lib.hid hl
  have M9 := Lib.hid hm
  replace X3 := Lib.hid ((X3.out.below hb).alloc (.cells #[.slice D9 l9 c9, .slice E9 m9 k9] TF))
  replace Y3 := Lib.hid ((Y3.out.below hb).alloc (.cells #[.slice D9 l9 c9, .slice E9 m9 k9] TF))
  replace X7 := Lib.hid ((X7.out.below hb).alloc (.cells #[.slice D9 l9 c9, .slice E9 m9 k9] TF))
  replace Y7 := Lib.hid ((Y7.out.below hb).alloc (.cells #[.slice D9 l9 c9, .slice E9 m9 k9] TF))
  replace C1 := Lib.hid ((C1.out.below hb).alloc (.cells #[.slice D9 l9 c9, .slice E9 m9 k9] TF))
  clear hb hl hm hc hd BS7 BQ7 X5 Y5
  have HHI := Lib.hid (fun (w' : World) => (hits_choose w' (m := 6) (o := 49) (h := 3) (by omega) (by omega) (by omega) (by omega) rfl rfl).mono fun e w'' h => (⟨Fx.of_res (a := 8815) (b := 499422) h.1 (by decide +kernel) (by decide +kernel) (by decide) (by decide), h.2⟩ : Fx w'' e 8815 499422 ∧ _))
  go_wp2_with fail
  refine (HHI.out _).mono ?_
  rintro e w11 ⟨⟨D11, l11, c11, E11, m11, k11, rfl, a11, b11, hl, hm, hc, hd⟩, hb⟩
  have BQ11 := Lib.hid (BS9.out.on hb)
  have BS11 := Lib.hid (BQ11.out.alloc TF #[.slice D11 l11 c11, .slice E11 m11 k11])
  have X11 := Lib.hid (hc.alloc (.cells #[.slice D11 l11 c11, .slice E11 m11 k11] TF))
  have Y11 := Lib.hid (hd.alloc (.cells #[.slice D11 l11 c11, .slice E11 m11 k11] TF))
  have L11 := Lib.hid hl
  have M11 := Lib.hid hm
  replace X3 := Lib.hid ((X3.out.below hb).alloc (.cells #[.slice D11 l11 c11, .slice E11 m11 k11] TF))
  replace Y3 := Lib.hid ((Y3.out.below hb).alloc (.cells #[.slice D11 l11 c11, .slice E11 m11 k11] TF))
  replace X7 := Lib.hid ((X7.out.below hb).alloc (.cells #[.slice D11 l11 c11, .slice E11 m11 k11] TF))
  replace Y7 := Lib.hid ((Y7.out.below hb).alloc (.cells #[.slice D11 l11 c11, .slice E11 m11 k11] TF))
  replace X9 := Lib.hid ((X9.out.below hb).alloc (.cells #[.slice D11 l11 c11, .slice E11 m11 k11] TF))
  replace Y9 := Lib.hid ((Y9.out.below hb).alloc (.cells #[.slice D11 l11 c11, .slice E11 m11 k11] TF))
  replace C1 := Lib.hid ((C1.out.below hb).alloc (.cells #[.slice D11 l11 c11, .slice E11 m11 k11] TF))
  clear hb hl hm hc hd BS9 BQ9 HHI
  have CS : Hid (Cells ((w11.alloc (.cells #[.slice D11 l11 c11, .slice E11 m11 k11] TF)).alloc (.cells #[.int .i64 1, .int .i64 3, .int .i64 1, .int .i64 0, .int .i64 1] TI)) (some ⟨w11.heap.size + 1, 0, none⟩) 5 (Dg (ctn (fun _ => 2) ZA 3))) := Lib.hid (Cells.lit (by simp only [World.size_alloc]) fun j hj => by
    match j, hj with
    | 0, _ => rfl
    | 1, _ => rfl
    | 2, _ => rfl
    | 3, _ => rfl
    | 4, _ => rfl)
  go_wp2_with fail
  refine (same_true (by omega) (C1.out.alloc _) CS.out).mono ?_
  rintro e w12 ⟨rfl, hb⟩
  have hb2 := Below.on (bl_al (.cells #[.int .i64 1, .int .i64 3, .int .i64 1, .int .i64 0, .int .i64 1] TI)) hb
  have BS12 := Lib.hid (BS11.out.on hb2)
  replace X3 := Lib.hid (X3.out.below hb2)
  replace Y3 := Lib.hid (Y3.out.below hb2)
  replace X7 := Lib.hid (X7.out.below hb2)
  replace Y7 := Lib.hid (Y7.out.below hb2)
  replace X9 := Lib.hid (X9.out.below hb2)
  replace Y9 := Lib.hid (Y9.out.below hb2)
  replace X11 := Lib.hid (X11.out.below hb2)
  replace Y11 := Lib.hid (Y11.out.below hb2)
  clear hb hb2 CS C1 BS11 BQ11
  obtain ⟨_, lb, kb⟩ := BS12.out.get (.tail _ (.tail _ (.tail _ (.tail _ (.head _)))))
  have q0 : w12.cell? ⟨w3.heap.size, 0, none⟩ = some (.slice D3 l3 c3) := kb.cell 0
  have q1 : w12.cell? ⟨w3.heap.size, 1, none⟩ = some (.slice E3 m3 k3) := kb.cell 1
  clear kb
  go_wp2_with fail
  refine (is_true (x := 4) (y := 5) a3 b3 L3.out M3.out X3.out Y3.out (by omega) (by omega) (by omega) (by decide) (by decide)).mono ?_
  rintro e w13 ⟨rfl, hb⟩
  have BS13 := Lib.hid (BS12.out.on hb)
  replace X7 := Lib.hid (X7.out.below hb)
  replace Y7 := Lib.hid (Y7.out.below hb)
  replace X9 := Lib.hid (X9.out.below hb)
  replace Y9 := Lib.hid (Y9.out.below hb)
  replace X11 := Lib.hid (X11.out.below hb)
  replace Y11 := Lib.hid (Y11.out.below hb)
  clear hb q0 q1 lb BS12 X3 Y3
  obtain ⟨_, lb, kb⟩ := BS13.out.get (.tail _ (.tail _ (.head _)))
  have q0 : w13.cell? ⟨w7.heap.size, 0, none⟩ = some (.slice D7 l7 c7) := kb.cell 0
  have q1 : w13.cell? ⟨w7.heap.size, 1, none⟩ = some (.slice E7 m7 k7) := kb.cell 1
  clear kb
  go_wp2_with fail
  refine (is_true (x := 1) (y := 2) a7 b7 L7.out M7.out X7.out Y7.out (by omega) (by omega) (by omega) (by decide) (by decide)).mono ?_
  rintro e w14 ⟨rfl, hb⟩
  have BS14 := Lib.hid (BS13.out.on hb)
  replace X9 := Lib.hid (X9.out.below hb)
  replace Y9 := Lib.hid (Y9.out.below hb)
  replace X11 := Lib.hid (X11.out.below hb)
  replace Y11 := Lib.hid (Y11.out.below hb)
  clear hb q0 q1 lb BS13 X7 Y7
  obtain ⟨_, lb, kb⟩ := BS14.out.get (.tail _ (.head _))
  have q0 : w14.cell? ⟨w9.heap.size, 0, none⟩ = some (.slice D9 l9 c9) := kb.cell 0
  have q1 : w14.cell? ⟨w9.heap.size, 1, none⟩ = some (.slice E9 m9 k9) := kb.cell 1
  clear kb
  go_wp2_with fail
  refine (is_true (x := 1) (y := 3) a9 b9 L9.out M9.out X9.out Y9.out (by omega) (by omega) (by omega) (by decide) (by decide)).mono ?_
  rintro e w15 ⟨rfl, hb⟩
  have BS15 := Lib.hid (BS14.out.on hb)
  replace X11 := Lib.hid (X11.out.below hb)
  replace Y11 := Lib.hid (Y11.out.below hb)
  clear hb q0 q1 lb BS14 X9 Y9
  obtain ⟨_, lb, kb⟩ := BS15.out.get (.head _)
  have q0 : w15.cell? ⟨w11.heap.size, 0, none⟩ = some (.slice D11 l11 c11) := kb.cell 0
  have q1 : w15.cell? ⟨w11.heap.size, 1, none⟩ = some (.slice E11 m11 k11) := kb.cell 1
  clear kb
  go_wp2_with fail
  refine (is_true (x := 8815) (y := 499422) a11 b11 L11.out M11.out X11.out Y11.out (by omega) (by omega) (by omega) (by decide) (by decide)).mono ?_
  rintro e w16 ⟨rfl, hb⟩
  have BS16 := Lib.hid (BS15.out.on hb)
  clear hb q0 q1 lb BS15 X11 Y11
  have CR : Hid (Cells (w16.alloc (.cells #[.bool true, .bool true, .bool false, .bool true] 4)) (some ⟨w16.heap.size, 0, none⟩) 4 (Bl fun i => i != 2)) := Lib.hid (Cells.lit rfl fun j hj => by
    match j, hj with
    | 0, _ => rfl
    | 1, _ => rfl
    | 2, _ => rfl
    | 3, _ => rfl)
  go_wp2_with fail
  refine (runs_num (f := fun i => i != 2) (by omega) CR.out).mono ?_
  rintro e w17 ⟨rfl, hb⟩
  rw [show rn (fun i => i != 2) 4 = 3 by decide]
  have HB := Lib.hid (BS16.out.on (Below.on (bl_al (.cells #[.bool true, .bool true, .bool false, .bool true] 4)) hb)).below
  clear hb CR
  go_wp2
  go_ret
  exact ⟨rfl, HB.out⟩
end Fa
end Go.Proofs.Ytiflmnmkmpjecaa
