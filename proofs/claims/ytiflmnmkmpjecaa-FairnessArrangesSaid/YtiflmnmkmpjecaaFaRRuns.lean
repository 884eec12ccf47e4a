/- The walks of the reference's mul, of, choose, Arranged and RunsChance (55). -/
import Derived.Test.YtiflmnmkmpjecaaFaRCh
import Derived.Test.YtiflmnmkmpjecaaFaRuns
import Derived.Test.YtiflmnmkmpjecaaFrRMake
set_option linter.unusedVariables false
namespace Go.Proofs.Ytiflmnmkmpjecaa
open Go.RowKit
namespace Fa
open Fr
/-- The result of a call that gives one number. -/
def Nm (B : Nat) (w' : World) (e : Ending) (N : Nat) : Prop := ∃ D l c, e = .returned (.agg #[.slice D l c]) ∧ l = L32 N ∧ Cells w' D l (Lm (d32 N)) ∧ Fresh B D
theorem nm_zero {B : Nat} {w' : World} {e : Ending} {D : Option Addr} {c : Nat} (he : e = .returned (.agg #[.slice D 0 c])) (hf : Fresh B D) : Nm B w' e 0 := ⟨D, 0, c, he, (L32_zero.2 rfl).symm, fun h => absurd h (by omega), hf⟩
set_option maxHeartbeats 2000000 in
theorem rkchoose_any (w : World) {n : Nat} (hn : n ≤ 80) (k : Int) :
    Calls Try.prog 92 #[.int .i64 (n : Int), .int .i64 k] w fun e w' => Num1 w.heap.size w' e (cz n k) ∧ Below w.heap.size w w' := by
  by_cases h : 0 ≤ k ∧ k ≤ n
  · obtain ⟨m, rfl⟩ := Int.eq_ofNat_of_zero_le h.1
    have : cz n (m : Int) = cb n m := by unfold cz; rw [if_pos h]; rfl
    rw [this]
    exact rchoose_in hn (by omega)
  · have hz : cz n k = 0 := by unfold cz; rw [if_neg h]
    rw [hz]
    have BS0 := Lib.hid (box1z w (.slice none 0 0))
    have KN := fun w' => in_any w' (n : Int) 80
    have KM := fun w' => in_any w' k (n : Int)
    rw [decide_eq_true (show (0 : Int) ≤ (n : Int) ∧ (n : Int) ≤ 80 by omega)] at KN
    rw [decide_eq_false h] at KM
    have HKN := Lib.hid KN
    have HKM := Lib.hid KM
    have HB := Lib.hid BS0.out.below
    clear KN KM h hz
    go_enter Try.func92, Try.ntmps92
    go_wp2_with fail
    (with_reducible refine (HKN.out _).mono ?_)
    rintro e w1 ⟨rfl, rfl⟩
    go_wp2_with fail
    (with_reducible refine (HKM.out _).mono ?_)
    rintro e w1 ⟨rfl, rfl⟩
    go_wp2
    refine bodyPost_ret (v := .tuple #[.agg #[.slice none 0 0], .int .i64 0]) (by simp [results, Try.results92, go_sem]) rfl ?_
    exact ⟨num_zero rfl fresh_none, by repeat' (first | exact HB.out | refine bse ?_ (Nat.le_refl _) _ _)⟩
set_option maxHeartbeats 2000000 in
theorem rch_any (w : World) {n : Nat} (hn : n ≤ 80) (k : Int) :
    Calls Try.prog 61 #[.int .i64 (n : Int), .int .i64 k] w fun e w' => Nm w.heap.size w' e (cz n k) ∧ Below w.heap.size w w' := by
  have BS0 := Lib.hid (box1z w (.slice none 0 0))
  have K := Lib.hid (fun w' => rkchoose_any w' hn k)
  obtain ⟨x, hx⟩ : ∃ x, x = cz n k := ⟨_, rfl⟩
  rw [← hx] at K ⊢
  clear hx
  go_enter Try.func61, Try.ntmps61
  go_wp2_with fail
  (with_reducible refine (K.out _).mono ?_)
  rintro e w1 ⟨⟨D, l, c, rfl, hl, hc, hf⟩, hb⟩
  have BS1 := Lib.hid (BS0.out.on hb)
  have HL := Lib.hid hl
  have HC := Lib.hid hc
  have HF := Lib.hid (hf.mono (show w.heap.size + 1 ≤ _ by rw [World.size_alloc]; exact Nat.le_refl _))
  clear hl hc hf hb BS0
  obtain ⟨_, lz, kz⟩ := BS1.out.get (.head _)
  have qz : w1.cell? ⟨w.heap.size, 0, none⟩ = some (.slice none 0 0) := kz.cell 0
  have fz : w1.frozen? ⟨w.heap.size, 0, none⟩ = false := kz.frozen 0
  have HB7 := Lib.hid BS1.out.below
  clear kz
  go_wp2
  refine bodyPost_ret (v := .agg #[.slice D l c]) (by simp [results, Try.results61, go_sem, qz, lz]) rfl ?_
  refine ⟨⟨D, l, c, rfl, HL.out, ?_, HF.out.mono (by omega)⟩, ?_⟩
  · exact (HC.out.set_ HF.out (Nat.lt_succ_self _) _ _).alloc _
  · repeat' (first | exact HB7.out | refine bl_alloc ?_ _ | refine bse ?_ (Nat.le_refl _) _ _)
set_option maxHeartbeats 2000000 in
theorem rof55_any (w : World) {n : Nat} (hn : n ≤ 9223372036854775807) :
    Calls Try.prog 42 #[.int .i64 (n : Int)] w fun e w' => Nm w.heap.size w' e n ∧ Below w.heap.size w w' := by
  have BS0 := Lib.hid (box1z w (.slice none 0 0))
  have hw : IntKind.u64.wrap (n : Int) = (n : Int) := IntWalk.u64_in _ (by omega)
  have K := Lib.hid (fun w' => rof_new n (by omega) w')
  go_enter Try.func42, Try.ntmps42
  go_wp2_with fail
  (with_reducible refine (K.out _).mono ?_)
  rintro e w1 ⟨D, c, rfl, _, hc, hf, hb⟩
  obtain ⟨l, hl⟩ : ∃ l, l = L32 n := ⟨_, rfl⟩
  rw [← hl] at hc ⊢
  have BS1 := Lib.hid (BS0.out.on hb)
  have HL := Lib.hid hl
  have HC := Lib.hid hc
  have HF := Lib.hid (hf.mono (show w.heap.size + 1 ≤ _ by rw [World.size_alloc]; exact Nat.le_refl _))
  clear hl hc hf hb BS0
  obtain ⟨_, lz, kz⟩ := BS1.out.get (.head _)
  have qz : w1.cell? ⟨w.heap.size, 0, none⟩ = some (.slice none 0 0) := kz.cell 0
  have fz : w1.frozen? ⟨w.heap.size, 0, none⟩ = false := kz.frozen 0
  have HB7 := Lib.hid BS1.out.below
  clear kz
  go_wp2
  refine bodyPost_ret (v := .agg #[.slice D l c]) (by simp [results, Try.results42, go_sem, qz]) rfl ?_
  exact ⟨⟨D, l, c, rfl, HL.out, HC.out.set_ HF.out (Nat.lt_succ_self _) _ _, HF.out.mono (by omega)⟩, bse HB7.out (Nat.le_refl _) _ _⟩
theorem boxes3N (w : World) (S T : Value) : Bs w (((w.alloc (.cells #[S] TN)).alloc (.cells #[T] TN)).alloc (.cells #[.slice none 0 0] TN)) [(w.heap.size + 1 + 1, TN, #[.slice none 0 0]), (w.heap.size + 1, TN, #[T]), (w.heap.size, TN, #[S])] := by
  have := (((Bs.nil w).alloc TN #[S]).alloc TN #[T]).alloc TN #[.slice none 0 0]
  simp only [World.size_alloc] at this
  exact this
set_option maxHeartbeats 2000000 in
theorem rmul55_any {D E : Option Addr} {n m c c' x y : Nat} {w : World} (hn : n ≤ 64) (hm : m ≤ 64) (hnx : n = L32 x) (hmy : m = L32 y) (hx : Cells w D n (Lm (d32 x))) (hy : Cells w E m (Lm (d32 y))) (hf : L32 (x * y) ≤ 64) :
    Calls Try.prog 41 #[.agg #[.slice D n c], .agg #[.slice E m c']] w fun e w' => Nm w.heap.size w' e (x * y) ∧ Below w.heap.size w w' := by
  have BS0 := Lib.hid (boxes3N w (.slice D n c) (.slice E m c'))
  have HX := Lib.hid hnx
  have HY := Lib.hid hmy
  have HP := Lib.hid hf
  clear hnx hmy hf
  go_enter Try.func41, Try.ntmps41
  go_wp2_with fail
  refine (refMul_any (x := x) (y := y) hn hm HX.out HY.out (hx.below BS0.out.below) (hy.below BS0.out.below)).mono ?_
  rintro e w1 ⟨hr, hb⟩
  rcases hr with ⟨_, Dp, cp, rfl, _, hcp, hfp⟩ | ⟨h9, _⟩
  case inr => exact absurd h9 (by have := HP.out; omega)
  obtain ⟨l, hl⟩ : ∃ l, l = L32 (x * y) := ⟨_, rfl⟩
  rw [← hl] at hcp ⊢
  have BS1 := Lib.hid (BS0.out.on hb)
  have HL := Lib.hid hl
  have HC := Lib.hid hcp
  obtain ⟨z, hz⟩ : ∃ z, z = w.heap.size + 1 + 1 := ⟨_, rfl⟩
  have hzw : w.heap.size ≤ z := by omega
  have HF := Lib.hid (hfp.mono (show z + 1 ≤ _ by have := (BS0.out.get (.head _)).2.1; omega))
  obtain ⟨_, lz, kz⟩ := BS1.out.get (.head _)
  rw [← hz] at lz kz ⊢
  have qz : w1.cell? ⟨z, 0, none⟩ = some (.slice none 0 0) := kz.cell 0
  have fz : w1.frozen? ⟨z, 0, none⟩ = false := kz.frozen 0
  have HB7 := Lib.hid BS1.out.below
  clear hl hcp hfp hb BS0 kz hz
  unfold natv
  go_wp2
  refine bodyPost_ret (v := .agg #[.slice Dp l cp]) (by simp [results, Try.results41, go_sem, qz, lz]) rfl ?_
  refine ⟨⟨Dp, l, cp, rfl, HL.out, ?_, HF.out.mono (by omega)⟩, ?_⟩
  · exact (HC.out.set_ HF.out (Nat.lt_succ_self _) _ _).alloc _
  · repeat' (first | exact HB7.out | refine bl_alloc ?_ _ | refine bse ?_ hzw _ _)
theorem one_len : L32 1 ≤ 64 := Nat.le_trans (fit32_le (N := 1) (n := 1) (by unfold Fit32; decide)) (by omega)
set_option maxHeartbeats 4000000 in
theorem arrd_edge (w : World) {a b : Nat} {r : Int} (ha : a ≤ 80) (hb : b ≤ 80) {x : Nat} (hab : a = 0 ∨ 0 < a ∧ b = 0) (hx : (x = 1 ∧ (a + b = 0 ∧ r = 0 ∨ 0 < a + b ∧ r = 1)) ∨ (x = 0 ∧ (a + b = 0 ∧ r ≠ 0 ∨ 0 < a + b ∧ r ≠ 1))) :
    Calls Try.prog 63 #[.int .i64 (a : Int), .int .i64 (b : Int), .int .i64 r] w fun e w' => Nm w.heap.size w' e x ∧ Below w.heap.size w w' := by
  have BS0 := Lib.hid (box1z w (.slice none 0 0))
  have hw : IntKind.i64.wrap ((a : Int) + (b : Int)) = (a : Int) + (b : Int) := IntWalk.i64_in _ (by omega)
  have K := Lib.hid (fun w' => rof_new 1 (by omega) w')
  have h0 : ((a : Int) == 0) = true ∨ ((a : Int) == 0) = false ∧ ((b : Int) == 0) = true := by
    rcases hab with h | ⟨h, h'⟩
    · exact .inl (by simp; omega)
    · exact .inr ⟨by simp; omega, by simp; omega⟩
  have hB := Lib.hid BS0.out.below
  rcases hx with ⟨rfl, hx⟩ | ⟨rfl, hx⟩
  · have hS : (((a : Int) + (b : Int) == 0) = true ∧ (r == 0) = true) ∨ (((a : Int) + (b : Int) == 0) = false ∧ ((0 : Int) < (a : Int) + (b : Int)) ∧ (r == 1) = true) := by
      rcases hx with ⟨h, h'⟩ | ⟨h, h'⟩
      · exact .inl ⟨by simp; omega, by simp [h']⟩
      · exact .inr ⟨by simp; omega, by omega, by simp [h']⟩
    clear hab hx ha hb
    rcases h0 with h0 | ⟨h0, h0'⟩
    all_goals
      rcases hS with ⟨e1, e2⟩ | ⟨e1, e2, e3⟩
    all_goals
      go_enter Try.func63, Try.ntmps63
      go_wp2_with fail
      refine (K.out _).mono ?_
      rintro e w1 ⟨D, c, rfl, _, hc, hf, hb⟩
      obtain ⟨l, hl⟩ : ∃ l, l = L32 1 := ⟨_, rfl⟩
      rw [← hl] at hc ⊢
      have BS1 := Lib.hid (BS0.out.on hb)
      have HL := Lib.hid hl
      have HC := Lib.hid hc
      have HF := Lib.hid (hf.mono (show w.heap.size + 1 ≤ _ by rw [World.size_alloc]; exact Nat.le_refl _))
      clear hl hc hf hb
      obtain ⟨_, lz, kz⟩ := BS1.out.get (.head _)
      have qz : w1.cell? ⟨w.heap.size, 0, none⟩ = some (.slice none 0 0) := kz.cell 0
      have fz : w1.frozen? ⟨w.heap.size, 0, none⟩ = false := kz.frozen 0
      have HB7 := Lib.hid BS1.out.below
      clear kz
      go_wp2
      refine bodyPost_ret (v := .agg #[.slice D l c]) (by simp [results, Try.results63, go_sem, qz]) rfl ?_
      exact ⟨⟨D, l, c, rfl, HL.out, HC.out.set_ HF.out (Nat.lt_succ_self _) _ _, HF.out.mono (by omega)⟩, bse HB7.out (Nat.le_refl _) _ _⟩
  · have hS : (((a : Int) + (b : Int) == 0) = true ∧ (r == 0) = false ∧ ((0 : Int) < (a : Int) + (b : Int)) = False) ∨ (((a : Int) + (b : Int) == 0) = false ∧ ((0 : Int) < (a : Int) + (b : Int)) = True ∧ (r == 1) = false) := by
      rcases hx with ⟨h, h'⟩ | ⟨h, h'⟩
      · exact .inl ⟨by simp; omega, by simp [h'], eq_false (by omega)⟩
      · exact .inr ⟨by simp; omega, eq_true (by omega), by simp [h']⟩
    clear hab hx ha hb
    rcases h0 with h0 | ⟨h0, h0'⟩
    all_goals
      rcases hS with ⟨e1, e2, e3⟩ | ⟨e1, e2, e3⟩
    all_goals
      go_enter Try.func63, Try.ntmps63
      go_wp2
      refine bodyPost_ret (v := .agg #[.slice none 0 0]) (by simp [results, Try.results63, go_sem]) rfl ?_
      exact ⟨nm_zero rfl fresh_none, by repeat' (first | exact hB.out | refine bse ?_ (Nat.le_refl _) _ _)⟩
set_option maxHeartbeats 4000000 in
theorem arrd_none (w : World) {a b : Nat} {r : Int} (ha : a ≤ 80) (hb : b ≤ 80) (h0 : 0 < a) (h1 : 0 < b) (h : r < 2 ∨ 2 ≤ r ∧ (a : Int) + b < r) :
    Calls Try.prog 63 #[.int .i64 (a : Int), .int .i64 (b : Int), .int .i64 r] w fun e w' => Nm w.heap.size w' e 0 ∧ Below w.heap.size w w' := by
  have BS0 := Lib.hid (box1z w (.slice none 0 0))
  have hw : IntKind.i64.wrap ((a : Int) + (b : Int)) = (a : Int) + (b : Int) := IntWalk.i64_in _ (by omega)
  have g3 : ((a : Int) == 0) = false := by simp; omega
  have g4 : ((b : Int) == 0) = false := by simp; omega
  have hB := Lib.hid BS0.out.below
  rcases h with hc | ⟨hc1, hc2⟩
  all_goals
    go_enter Try.func63, Try.ntmps63
    go_wp2
    refine bodyPost_ret (v := .agg #[.slice none 0 0]) (by simp [results, Try.results63, go_sem]) rfl ?_
    exact ⟨nm_zero rfl fresh_none, by repeat' (first | exact hB.out | refine bse ?_ (Nat.le_refl _) _ _)⟩
set_option maxHeartbeats 4000000 in
set_option maxRecDepth 100000 in
theorem arrd_even (w : World) {a b : Nat} {r : Int} (ha : a ≤ 80) (hb : b ≤ 80) {s : Int} (h0 : 0 < a) (h1 : 0 < b) (h2 : 2 ≤ r) (h3 : r ≤ (a : Int) + b) (hs : s = r / 2) (he : r % 2 = 0) :
    Calls Try.prog 63 #[.int .i64 (a : Int), .int .i64 (b : Int), .int .i64 r] w fun e w' => Nm w.heap.size w' e (2 * (cz (a - 1) (s - 1) * cz (b - 1) (s - 1))) ∧ Below w.heap.size w w' := by
  have BS0 := Lib.hid (box1z w (.slice none 0 0))
  have hw1 : IntKind.i64.wrap ((a : Int) + (b : Int)) = (a : Int) + (b : Int) := IntWalk.i64_in _ (by omega)
  have g3 : ((a : Int) == 0) = false := by simp; omega
  have g4 : ((b : Int) == 0) = false := by simp; omega
  obtain ⟨n, hn⟩ : ∃ n, n = a - 1 := ⟨_, rfl⟩
  obtain ⟨m, hm⟩ : ∃ n, n = b - 1 := ⟨_, rfl⟩
  have hw2 : IntKind.i64.wrap ((a : Int) - 1) = (n : Int) := by rw [IntWalk.i64_in _ (by omega)]; omega
  have hw3 : IntKind.i64.wrap ((b : Int) - 1) = (m : Int) := by rw [IntWalk.i64_in _ (by omega)]; omega
  have g1 : (r < 2) = False := eq_false (by omega)
  have g2 : ((a : Int) + (b : Int) < r) = False := eq_false (by omega)
  have hd : r.tdiv 2 = s := by rw [hs]; exact Int.tdiv_eq_ediv_of_nonneg (by omega)
  have hw5 : IntKind.i64.wrap s = s := IntWalk.i64_in _ (by omega)
  have hq : r.tmod 2 = r % 2 := Int.tmod_eq_emod_of_nonneg (by omega)
  obtain ⟨j, hj⟩ : ∃ j, j = s - 1 := ⟨_, rfl⟩
  have hw4 : IntKind.i64.wrap (s - 1) = j := by rw [IntWalk.i64_in _ (by omega)]; omega
  have hn80 : n ≤ 80 := by omega
  have hm80 : m ≤ 80 := by omega
  rw [← hn, ← hm, ← hj]
  have e0 : (r % 2 == 0) = true := by simp [he]
  obtain ⟨X, hX⟩ : ∃ x, x = cz n j := ⟨_, rfl⟩
  obtain ⟨Y, hY⟩ : ∃ x, x = cz m j := ⟨_, rfl⟩
  have x17 : L32 X ≤ 17 := by rw [hX]; exact cz_len hn80 j
  have y17 : L32 Y ≤ 17 := by rw [hY]; exact cz_len hm80 j
  have p34 : L32 (X * Y) ≤ 34 := prod_len x17 y17
  have q35 : L32 (2 * (X * Y)) ≤ 35 := prod_len (a := 1) (fit32_le (N := 2) (n := 1) (by unfold Fit32; decide)) p34
  have K1 := fun w' => rch_any w' hn80 j
  have K2 := fun w' => rch_any w' hm80 j
  rw [← hX] at K1 ⊢
  rw [← hY] at K2 ⊢
  have HK1 := Lib.hid K1
  have HK2 := Lib.hid K2
  have KO := Lib.hid (fun w' => rof55_any w' (n := 2) (by omega))
  have HX := Lib.hid x17
  have HY := Lib.hid y17
  have HPX := Lib.hid p34
  have HQX := Lib.hid q35
  clear K1 K2 hX hY x17 y17 p34 q35 hn hm hj hs he h2 h3
  go_enter Try.func63, Try.ntmps63
  go_wp2_with fail
  refine (KO.out _).mono ?_
  rintro e v1 ⟨⟨Do, lo, co, rfl, hl, hc, hf⟩, hb⟩
  have BT1 := Lib.hid (BS0.out.on hb)
  have Co := Lib.hid hc
  have Lo := Lib.hid hl
  have Fo := Lib.hid (hf.mono BS0.out.below.size)
  have Go := Lib.hid hf
  clear hb hl hc hf
  go_wp2_with fail
  (with_reducible refine (HK1.out _).mono ?_)
  rintro e v2 ⟨⟨Dx, lx, cx, rfl, hl, hc, hf⟩, hb⟩
  have BT2 := Lib.hid (BT1.out.on hb)
  replace Co := Lib.hid (Co.out.below hb)
  have Cx := Lib.hid hc
  have Lx := Lib.hid hl
  have Fx := Lib.hid (hf.mono BT1.out.below.size)
  have Gx := Lib.hid hf
  clear hb hl hc hf
  go_wp2_with fail
  (with_reducible refine (HK2.out _).mono ?_)
  rintro e v3 ⟨⟨Dy, ly, cy, rfl, hl, hc, hf⟩, hb⟩
  have BT3 := Lib.hid (BT2.out.on hb)
  replace Co := Lib.hid (Co.out.below hb)
  replace Cx := Lib.hid (Cx.out.below hb)
  have Cy := Lib.hid hc
  have Ly := Lib.hid hl
  have Fy := Lib.hid (hf.mono BT2.out.below.size)
  have Gy := Lib.hid hf
  clear hb hl hc hf
  have lx64 : lx ≤ 64 := by rw [Lx.out]; exact Nat.le_trans HX.out (by omega)
  have ly64 : ly ≤ 64 := by rw [Ly.out]; exact Nat.le_trans HY.out (by omega)
  have lo64 : lo ≤ 64 := by rw [Lo.out]; exact Nat.le_trans (fit32_le (N := 2) (n := 1) (by unfold Fit32; decide)) (by omega)
  go_wp2_with fail
  refine (rmul55_any (x := X) (y := Y) lx64 ly64 Lx.out Ly.out Cx.out Cy.out (Nat.le_trans HPX.out (by omega))).mono ?_
  rintro e v4 ⟨⟨Dp, lp, cp, rfl, hl, hc, hf⟩, hb⟩
  have BT4 := Lib.hid (BT3.out.on hb)
  replace Co := Lib.hid (Co.out.below hb)
  replace Cx := Lib.hid (Cx.out.below hb)
  replace Cy := Lib.hid (Cy.out.below hb)
  have Cp := Lib.hid hc
  have Lp := Lib.hid hl
  have Fp := Lib.hid (hf.mono BT3.out.below.size)
  have Gp := Lib.hid hf
  clear hb hl hc hf
  have lp64 : lp ≤ 64 := by rw [Lp.out]; exact Nat.le_trans HPX.out (by omega)
  go_wp2_with fail
  refine (rmul55_any (x := 2) (y := X * Y) lo64 lp64 Lo.out Lp.out Co.out Cp.out (Nat.le_trans HQX.out (by omega))).mono ?_
  rintro e v5 ⟨⟨Dq, lq, cq, rfl, hl, hc, hf⟩, hb⟩
  have BT5 := Lib.hid (BT4.out.on hb)
  replace Co := Lib.hid (Co.out.below hb)
  replace Cx := Lib.hid (Cx.out.below hb)
  replace Cy := Lib.hid (Cy.out.below hb)
  replace Cp := Lib.hid (Cp.out.below hb)
  have Cq := Lib.hid hc
  have Lq := Lib.hid hl
  have Fq := Lib.hid (hf.mono BT4.out.below.size)
  have Gq := Lib.hid hf
  clear hb hl hc hf
  have HZ := Lib.hid (show w.heap.size + 1 ≤ _ from (BT4.out.get (.head _)).2.1)
  obtain ⟨_, lz, kz⟩ := BT5.out.get (.head _)
  have qz : v5.cell? ⟨w.heap.size, 0, none⟩ = some (.slice none 0 0) := kz.cell 0
  have fz : v5.frozen? ⟨w.heap.size, 0, none⟩ = false := kz.frozen 0
  have HB7 := Lib.hid BT5.out.below
  clear kz
  go_wp2
  refine bodyPost_ret (v := .agg #[.slice Dq lq cq]) (by simp [results, Try.results63, go_sem, qz]) rfl ?_
  exact ⟨⟨Dq, lq, cq, rfl, Lq.out, Cq.out.set_ (Gq.out.mono HZ.out) (Nat.lt_succ_self _) _ _, Fq.out⟩, bse HB7.out (Nat.le_refl _) _ _⟩
set_option maxHeartbeats 4000000 in
set_option maxRecDepth 100000 in
theorem arrd_odd (w : World) {a b : Nat} {r : Int} (ha : a ≤ 80) (hb : b ≤ 80) {s : Int} (h0 : 0 < a) (h1 : 0 < b) (h2 : 2 ≤ r) (h3 : r ≤ (a : Int) + b) (hs : s = r / 2) (he : r % 2 = 1) :
    Calls Try.prog 63 #[.int .i64 (a : Int), .int .i64 (b : Int), .int .i64 r] w fun e w' => Nm w.heap.size w' e (cz (a - 1) s * cz (b - 1) (s - 1) + cz (a - 1) (s - 1) * cz (b - 1) s) ∧ Below w.heap.size w w' := by
  have BS0 := Lib.hid (box1z w (.slice none 0 0))
  have hw1 : IntKind.i64.wrap ((a : Int) + (b : Int)) = (a : Int) + (b : Int) := IntWalk.i64_in _ (by omega)
  have g3 : ((a : Int) == 0) = false := by simp; omega
  have g4 : ((b : Int) == 0) = false := by simp; omega
  obtain ⟨n, hn⟩ : ∃ n, n = a - 1 := ⟨_, rfl⟩
  obtain ⟨m, hm⟩ : ∃ n, n = b - 1 := ⟨_, rfl⟩
  have hw2 : IntKind.i64.wrap ((a : Int) - 1) = (n : Int) := by rw [IntWalk.i64_in _ (by omega)]; omega
  have hw3 : IntKind.i64.wrap ((b : Int) - 1) = (m : Int) := by rw [IntWalk.i64_in _ (by omega)]; omega
  have g1 : (r < 2) = False := eq_false (by omega)
  have g2 : ((a : Int) + (b : Int) < r) = False := eq_false (by omega)
  have hd : r.tdiv 2 = s := by rw [hs]; exact Int.tdiv_eq_ediv_of_nonneg (by omega)
  have hw5 : IntKind.i64.wrap s = s := IntWalk.i64_in _ (by omega)
  have hq : r.tmod 2 = r % 2 := Int.tmod_eq_emod_of_nonneg (by omega)
  obtain ⟨j, hj⟩ : ∃ j, j = s - 1 := ⟨_, rfl⟩
  have hw4 : IntKind.i64.wrap (s - 1) = j := by rw [IntWalk.i64_in _ (by omega)]; omega
  have hn80 : n ≤ 80 := by omega
  have hm80 : m ≤ 80 := by omega
  rw [← hn, ← hm, ← hj]
  have e0 : (r % 2 == 0) = false := by simp; omega
  obtain ⟨X, hX⟩ : ∃ x, x = cz n s := ⟨_, rfl⟩
  obtain ⟨Y, hY⟩ : ∃ x, x = cz m j := ⟨_, rfl⟩
  obtain ⟨U, hU⟩ : ∃ x, x = cz n j := ⟨_, rfl⟩
  obtain ⟨V, hV⟩ : ∃ x, x = cz m s := ⟨_, rfl⟩
  have x17 : L32 X ≤ 17 := by rw [hX]; exact cz_len hn80 s
  have y17 : L32 Y ≤ 17 := by rw [hY]; exact cz_len hm80 j
  have u17 : L32 U ≤ 17 := by rw [hU]; exact cz_len hn80 j
  have v17 : L32 V ≤ 17 := by rw [hV]; exact cz_len hm80 s
  have p34 : L32 (X * Y) ≤ 34 := prod_len x17 y17
  have q34 : L32 (U * V) ≤ 34 := prod_len u17 v17
  have t35 := sum_len p34 q34
  have K1 := fun w' => rch_any w' hn80 s
  have K2 := fun w' => rch_any w' hm80 j
  have K3 := fun w' => rch_any w' hn80 j
  have K4 := fun w' => rch_any w' hm80 s
  rw [← hX] at K1 ⊢
  rw [← hY] at K2 ⊢
  rw [← hU] at K3 ⊢
  rw [← hV] at K4 ⊢
  have HK1 := Lib.hid K1
  have HK2 := Lib.hid K2
  have HK3 := Lib.hid K3
  have HK4 := Lib.hid K4
  have HX := Lib.hid x17
  have HY := Lib.hid y17
  have HU := Lib.hid u17
  have HV := Lib.hid v17
  have HPX := Lib.hid p34
  have HQX := Lib.hid q34
  have HTX := Lib.hid t35
  clear K1 K2 K3 K4 hX hY hU hV x17 y17 u17 v17 p34 q34 t35 hn hm hj hs he h2 h3
  go_enter Try.func63, Try.ntmps63
  go_wp2_with fail
  (with_reducible refine (HK1.out _).mono ?_)
  rintro e v1 ⟨⟨Dx, lx, cx, rfl, hl, hc, hf⟩, hb⟩
  have BT1 := Lib.hid (BS0.out.on hb)
  have Cx := Lib.hid hc
  have Lx := Lib.hid hl
  have Fx := Lib.hid (hf.mono BS0.out.below.size)
  have Gx := Lib.hid hf
  clear hb hl hc hf
  go_wp2_with fail
  (with_reducible refine (HK2.out _).mono ?_)
  rintro e v2 ⟨⟨Dy, ly, cy, rfl, hl, hc, hf⟩, hb⟩
  have BT2 := Lib.hid (BT1.out.on hb)
  replace Cx := Lib.hid (Cx.out.below hb)
  have Cy := Lib.hid hc
  have Ly := Lib.hid hl
  have Fy := Lib.hid (hf.mono BT1.out.below.size)
  have Gy := Lib.hid hf
  clear hb hl hc hf
  have lx64 : lx ≤ 64 := by rw [Lx.out]; exact Nat.le_trans HX.out (by omega)
  have ly64 : ly ≤ 64 := by rw [Ly.out]; exact Nat.le_trans HY.out (by omega)
  go_wp2_with fail
  refine (rmul55_any (x := X) (y := Y) lx64 ly64 Lx.out Ly.out Cx.out Cy.out (Nat.le_trans HPX.out (by omega))).mono ?_
  rintro e v3 ⟨⟨Dp, lp, cp, rfl, hl, hc, hf⟩, hb⟩
  have BT3 := Lib.hid (BT2.out.on hb)
  replace Cx := Lib.hid (Cx.out.below hb)
  replace Cy := Lib.hid (Cy.out.below hb)
  have Cp := Lib.hid hc
  have Lp := Lib.hid hl
  have Fp := Lib.hid (hf.mono BT2.out.below.size)
  have Gp := Lib.hid hf
  clear hb hl hc hf
  go_wp2_with fail
  (with_reducible refine (HK3.out _).mono ?_)
  rintro e v4 ⟨⟨Du, lu, cu, rfl, hl, hc, hf⟩, hb⟩
  have BT4 := Lib.hid (BT3.out.on hb)
  replace Cx := Lib.hid (Cx.out.below hb)
  replace Cy := Lib.hid (Cy.out.below hb)
  replace Cp := Lib.hid (Cp.out.below hb)
  have Cu := Lib.hid hc
  have Lu := Lib.hid hl
  have Fu := Lib.hid (hf.mono BT3.out.below.size)
  have Gu := Lib.hid hf
  clear hb hl hc hf
  go_wp2_with fail
  (with_reducible refine (HK4.out _).mono ?_)
  rintro e v5 ⟨⟨Dv, lv, cv, rfl, hl, hc, hf⟩, hb⟩
  have BT5 := Lib.hid (BT4.out.on hb)
  replace Cx := Lib.hid (Cx.out.below hb)
  replace Cy := Lib.hid (Cy.out.below hb)
  replace Cp := Lib.hid (Cp.out.below hb)
  replace Cu := Lib.hid (Cu.out.below hb)
  have Cv := Lib.hid hc
  have Lv := Lib.hid hl
  have Fv := Lib.hid (hf.mono BT4.out.below.size)
  have Gv := Lib.hid hf
  clear hb hl hc hf
  have lu64 : lu ≤ 64 := by rw [Lu.out]; exact Nat.le_trans HU.out (by omega)
  have lv64 : lv ≤ 64 := by rw [Lv.out]; exact Nat.le_trans HV.out (by omega)
  have lp64 : lp ≤ 64 := by rw [Lp.out]; exact Nat.le_trans HPX.out (by omega)
  go_wp2_with fail
  refine (rmul55_any (x := U) (y := V) lu64 lv64 Lu.out Lv.out Cu.out Cv.out (Nat.le_trans HQX.out (by omega))).mono ?_
  rintro e v6 ⟨⟨Dt, lt, ct, rfl, hl, hc, hf⟩, hb⟩
  have BT6 := Lib.hid (BT5.out.on hb)
  replace Cx := Lib.hid (Cx.out.below hb)
  replace Cy := Lib.hid (Cy.out.below hb)
  replace Cp := Lib.hid (Cp.out.below hb)
  replace Cu := Lib.hid (Cu.out.below hb)
  replace Cv := Lib.hid (Cv.out.below hb)
  have Ct := Lib.hid hc
  have Lt := Lib.hid hl
  have Ft := Lib.hid (hf.mono BT5.out.below.size)
  have Gt := Lib.hid hf
  clear hb hl hc hf
  have lt64 : lt ≤ 64 := by rw [Lt.out]; exact Nat.le_trans HQX.out (by omega)
  go_wp2_with fail
  refine (refAdd_any (x := X * Y) (y := U * V) lp64 lt64 Lp.out Lt.out Cp.out Ct.out).mono ?_
  rintro e w9 ⟨hr, hb⟩
  rcases hr with ⟨_, Dq, cq, rfl, _, hcq, hfq⟩ | ⟨h9, _⟩
  case inr => exact absurd h9 (by have := HTX.out; omega)
  obtain ⟨lq, hlq⟩ : ∃ l, l = L32 (X * Y + U * V) := ⟨_, rfl⟩
  rw [← hlq] at hcq ⊢
  have BS9 := Lib.hid (BT6.out.on hb)
  have Lq := Lib.hid hlq
  have Cq := Lib.hid hcq
  have Gq := Lib.hid hfq
  have HZ := Lib.hid (show w.heap.size + 1 ≤ _ from (BT6.out.get (.head _)).2.1)
  have HW := Lib.hid BT6.out.below.size
  clear hb hlq hcq hfq
  obtain ⟨_, lz, kz⟩ := BS9.out.get (.head _)
  have qz : w9.cell? ⟨w.heap.size, 0, none⟩ = some (.slice none 0 0) := kz.cell 0
  have fz : w9.frozen? ⟨w.heap.size, 0, none⟩ = false := kz.frozen 0
  have HB7 := Lib.hid BS9.out.below
  clear kz
  unfold natv
  go_wp2
  refine bodyPost_ret (v := .agg #[.slice Dq lq cq]) (by simp [results, Try.results63, go_sem, qz, lz]) rfl ?_
  refine ⟨⟨Dq, lq, cq, rfl, Lq.out, ?_, Gq.out.mono HW.out⟩, ?_⟩
  · exact (Cq.out.set_ (Gq.out.mono HZ.out) (Nat.lt_succ_self _) _ _).alloc _
  · repeat' (first | exact HB7.out | refine bl_alloc ?_ _ | refine bse ?_ (Nat.le_refl _) _ _)
theorem arrd_any (w : World) {a b : Nat} {r : Int} (ha : a ≤ 80) (hb : b ≤ 80) :
    Calls Try.prog 63 #[.int .i64 (a : Int), .int .i64 (b : Int), .int .i64 r] w fun e w' => Nm w.heap.size w' e (rc a b r) ∧ Below w.heap.size w w' := by
  unfold rc
  by_cases h : a = 0 ∨ b = 0
  · rw [if_pos h]
    refine arrd_edge w ha hb (by omega) ?_
    by_cases hr : r = min ((a : Int) + b) 1
    · rw [if_pos hr]
      exact .inl ⟨rfl, by omega⟩
    · rw [if_neg hr]
      exact .inr ⟨rfl, by omega⟩
  · rw [if_neg h]
    unfold arr
    by_cases h2 : r < 2 ∨ (a : Int) + b < r
    · rw [if_pos h2]
      exact arrd_none w ha hb (by omega) (by omega) (by omega)
    · rw [if_neg h2]
      by_cases he : r % 2 = 1
      · rw [if_pos he]
        exact arrd_odd w ha hb (by omega) (by omega) (by omega) (by omega) rfl he
      · rw [if_neg he]
        have := arrd_even w (s := r / 2) ha hb (by omega) (by omega) (show 2 ≤ r by omega) (by omega) rfl (by omega)
        rw [Nat.two_mul] at this
        exact this
set_option maxHeartbeats 4000000 in
theorem rruns_bad (w : World) {a b r : Int} (ha : a ≤ 9223372036854775807) (h : a < 0 ∨ 0 ≤ a ∧ 80 < a ∨ 0 ≤ a ∧ a ≤ 80 ∧ b < 0 ∨ 0 ≤ a ∧ a ≤ 80 ∧ 0 ≤ b ∧ 80 - a < b) :
    Calls Try.prog 24 #[.int .i64 a, .int .i64 b, .int .i64 r] w fun e w' => Err e 2 ∧ Below w.heap.size w w' := by
  have BS0 := Lib.hid (box0 w)
  have HB7 := Lib.hid BS0.out.below
  rcases h with h | ⟨h1, h2⟩ | ⟨h1, h2, h3⟩ | ⟨h1, h2, h3, h4⟩
  all_goals
    try have hw : IntKind.i64.wrap (80 - a) = 80 - a := IntWalk.i64_in _ (by omega)
    go_enter Try.func24, Try.ntmps24
    go_wp2
    refine bodyPost_ret (v := .tuple #[fv none 0 0 none 0 0, .int .i64 2]) (by unfold fv; simp [results, Try.results24, go_sem]) rfl ?_
    refine ⟨rfl, ?_⟩
    repeat' (first | exact HB7.out | refine bl_alloc ?_ _ | refine bse ?_ (by first | assumption | exact Nat.le_refl _) _ _)
set_option maxHeartbeats 4000000 in
set_option maxRecDepth 100000 in
theorem rruns_in (w : World) {a b x y : Nat} {r : Int} (ha : a ≤ 80) (hb : b ≤ 80 - a) (hx : x = rc a b r) (hy : y = cb (a + b) a) :
    Calls Try.prog 24 #[.int .i64 (a : Int), .int .i64 (b : Int), .int .i64 r] w fun e w' => Res w.heap.size w' e (x / Nat.gcd x y) (y / Nat.gcd x y) ∧ Below w.heap.size w w' := by
  have BS0 := Lib.hid (box0 w)
  have hw : IntKind.i64.wrap (80 - (a : Int)) = 80 - (a : Int) := IntWalk.i64_in _ (by omega)
  have hw2 : IntKind.i64.wrap ((a : Int) + (b : Int)) = ((a + b : Nat) : Int) := by rw [IntWalk.i64_in _ (by omega)]; omega
  have g1 : (80 - (a : Int) < (b : Int)) = False := eq_false (by omega)
  have g2 : (80 < (a : Int)) = False := eq_false (by omega)
  have K1 := fun w' => arrd_any w' (r := r) ha (show b ≤ 80 by omega)
  have K2 := fun w' => rch_any w' (n := a + b) (by omega) (a : Int)
  rw [← hx] at K1
  rw [show cz (a + b) (a : Int) = y by unfold cz; rw [if_pos (by omega), hy]; rfl] at K2
  have HX := Lib.hid (show L32 x ≤ 64 by rw [hx]; exact Nat.le_trans (rc_len ha (by omega) r) (by omega))
  have HY := Lib.hid (show L32 y ≤ 64 by rw [hy]; exact Nat.le_trans (cb_len (by omega) (by omega)) (by omega))
  have HY0 := Lib.hid (show 0 < y by rw [hy]; exact cb_pos (by omega))
  obtain ⟨s, hs⟩ : ∃ s, s = a + b := ⟨_, rfl⟩
  rw [← hs] at hw2 K2
  have HK1 := Lib.hid K1
  have HK2 := Lib.hid K2
  obtain ⟨qa, hqa⟩ : ∃ v, v = x / Nat.gcd x y := ⟨_, rfl⟩
  obtain ⟨qb, hqb⟩ : ∃ v, v = y / Nat.gcd x y := ⟨_, rfl⟩
  rw [← hqa, ← hqb]
  have HQA := Lib.hid hqa
  have HQB := Lib.hid hqb
  clear K1 K2 hx hy hqa hqb hs
  go_enter Try.func24, Try.ntmps24
  go_wp2_with fail
  (with_reducible refine (HK1.out _).mono ?_)
  rintro e v1 ⟨⟨Dx, lx, cx, rfl, hl, hc, hf⟩, hb⟩
  have BT1 := Lib.hid (BS0.out.on hb)
  have Cx := Lib.hid hc
  have Lx := Lib.hid hl
  have Fx := Lib.hid (hf.mono BS0.out.below.size)
  have Gx := Lib.hid hf
  clear hb hl hc hf
  go_wp2_with fail
  (with_reducible refine (HK2.out _).mono ?_)
  rintro e v2 ⟨⟨Dy, ly, cy, rfl, hl, hc, hf⟩, hb⟩
  have BT2 := Lib.hid (BT1.out.on hb)
  replace Cx := Lib.hid (Cx.out.below hb)
  have Cy := Lib.hid hc
  have Ly := Lib.hid hl
  have Fy := Lib.hid (hf.mono BT1.out.below.size)
  have Gy := Lib.hid hf
  clear hb hl hc hf
  have lx64 : lx ≤ 64 := by rw [Lx.out]; exact HX.out
  have ly64 : ly ≤ 64 := by rw [Ly.out]; exact HY.out
  go_wp2_with fail
  refine (rmake_any (x := x) (y := y) lx64 ly64 Lx.out Ly.out Cx.out Cy.out HY0.out).mono ?_
  rintro e w5 ⟨⟨Da', ca', Db', cb', rfl, hla, hlb, hca, hcb, hfa, hfb⟩, hb5⟩
  rw [← HQA.out] at hla hca ⊢
  rw [← HQB.out] at hlb hcb ⊢
  have HZ6 := Lib.hid (BT2.out.get (.head _)).2.1
  have HW6 := Lib.hid BT2.out.below.size
  have BS5 := Lib.hid (BT2.out.on hb5)
  clear hb5
  obtain ⟨_, lz, kz⟩ := BS5.out.get (.head _)
  have s0 : w5.cell? ⟨w.heap.size, 0, none⟩ = some (.slice none 0 0) := kz.cell 0
  have s1 : w5.cell? ⟨w.heap.size, 1, none⟩ = some (.slice none 0 0) := kz.cell 1
  have f0 : w5.frozen? ⟨w.heap.size, 0, none⟩ = false := kz.frozen 0
  have f1 : w5.frozen? ⟨w.heap.size, 1, none⟩ = false := kz.frozen 1
  have HB7 := Lib.hid BS5.out.below
  clear kz
  obtain ⟨l1, hl1⟩ : ∃ l, l = L32 qa := ⟨_, rfl⟩
  obtain ⟨l2, hl2⟩ : ∃ l, l = L32 qb := ⟨_, rfl⟩
  rw [← hl1] at hla hca ⊢
  rw [← hl2] at hlb hcb ⊢
  have HL1 := Lib.hid hl1
  have HL2 := Lib.hid hl2
  have HCA := Lib.hid hca
  have HCB := Lib.hid hcb
  have HFA := Lib.hid hfa
  have HFB := Lib.hid hfb
  clear hl1 hl2 hca hcb hfa hfb
  unfold fv
  go_wp2
  refine bodyPost_ret (v := .tuple #[fv Da' l1 ca' Db' l2 cb', .int .i64 0]) (by unfold fv; simp [results, Try.results24, go_sem, s0, s1]) rfl ?_
  refine ⟨⟨Da', ca', Db', cb', by rw [← HL1.out, ← HL2.out], by rw [← HL1.out]; exact hla, by rw [← HL2.out]; exact hlb, ?_, ?_, HFA.out.mono HW6.out, HFB.out.mono HW6.out⟩, ?_⟩
  · rw [← HL1.out]
    exact (HCA.out.set_ HFA.out HZ6.out _ _).set_ HFA.out HZ6.out _ _
  · rw [← HL2.out]
    exact (HCB.out.set_ HFB.out HZ6.out _ _).set_ HFB.out HZ6.out _ _
  · exact bse (bse HB7.out (Nat.le_refl _) _ _) (Nat.le_refl _) _ _
end Fa
end Go.Proofs.Ytiflmnmkmpjecaa
