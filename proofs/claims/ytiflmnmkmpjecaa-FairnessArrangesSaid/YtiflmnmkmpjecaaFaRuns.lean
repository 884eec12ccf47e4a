/- The walks of fairness.choices, arrangements, RunsChance, Runs. -/
import Derived.Test.YtiflmnmkmpjecaaFaChoose
import Derived.Test.YtiflmnmkmpjecaaG8
set_option linter.unusedVariables false
namespace Go.Proofs.Ytiflmnmkmpjecaa
open Go.RowKit
namespace Fa
open Fr
/-- The binomial coefficient, 0 outside. -/
def cz (n : Nat) (k : Int) : Nat := if 0 ≤ k ∧ k ≤ n then cb n k.toNat else 0
theorem cz_len {n : Nat} (hn : n ≤ 80) (k : Int) : L32 (cz n k) ≤ 17 := by
  unfold cz
  split
  · exact cb_len hn (by omega)
  · rw [L32_zero.2 rfl]; omega
theorem num_zero {B : Nat} {w' : World} {e : Ending} {D : Option Addr} {c : Nat} (he : e = .returned (.tuple #[.agg #[.slice D 0 c], .int .i64 0])) (hf : Fresh B D) : Num1 B w' e 0 := ⟨D, 0, c, he, (L32_zero.2 rfl).symm, fun h => absurd h (by omega), hf⟩
theorem prod_len {x y a b : Nat} (hx : L32 x ≤ a) (hy : L32 y ≤ b) : L32 (x * y) ≤ a + b := fit32_le (fit32_mul (fit32_mono (fit32_len x) hx) (fit32_mono (fit32_len y) hy))
theorem sum_len {x y a : Nat} (hx : L32 x ≤ a) (hy : L32 y ≤ a) : L32 (x + y) ≤ a + 1 := by
  have h1 := fit32_mono (fit32_len x) hx
  have h2 := fit32_mono (fit32_len y) hy
  refine fit32_le ?_
  unfold Fit32 at *
  rw [Nat.pow_succ]
  omega
set_option maxHeartbeats 2000000 in
theorem choose_any (w : World) {n : Nat} (hn : n ≤ 80) (k : Int) :
    Calls Try.prog 53 #[.int .i64 (n : Int), .int .i64 k] w fun e w' => Num1 w.heap.size w' e (cz n k) ∧ Below w.heap.size w w' := by
  by_cases h : 0 ≤ k ∧ k ≤ n
  · obtain ⟨m, rfl⟩ := Int.eq_ofNat_of_zero_le h.1
    have : cz n (m : Int) = cb n m := by unfold cz; rw [if_pos h]; rfl
    rw [this]
    exact choose_in hn (by omega)
  · have hz : cz n k = 0 := by unfold cz; rw [if_neg h]
    rw [hz]
    have BS0 := Lib.hid (box1z w (.slice none 0 0))
    have KN := known_any (w.alloc (.cells #[.slice none 0 0] TN)) (n : Int)
    rw [decide_eq_true (show (0 : Int) ≤ (n : Int) ∧ (n : Int) ≤ 80 by omega)] at KN
    have HKN := Lib.hid KN
    have h0 : L32 0 = 0 := L32_zero.2 rfl
    have hcase : k < 0 ∨ 0 ≤ k ∧ (n : Int) < k := by omega
    clear KN h hz
    rcases hcase with hc | ⟨hc1, hc2⟩
    all_goals
      go_enter Try.func53, Try.ntmps53
      go_wp2_with fail
      refine HKN.out.mono ?_
      rintro e w1 ⟨rfl, rfl⟩
      go_wp2_with fail
      refine (of_new 0 (by omega) _).mono ?_
      rintro e w2 ⟨D0, c0, rfl, _, _, hf0, hb2⟩
      rw [h0]
      obtain ⟨_, lz, kz⟩ := (BS0.out.on hb2).get (.head _)
      have HB := Lib.hid (BS0.out.on hb2).below
      have qz : w2.cell? ⟨w.heap.size, 0, none⟩ = some (.slice none 0 0) := kz.cell 0
      have fz : w2.frozen? ⟨w.heap.size, 0, none⟩ = false := kz.frozen 0
      have HF := Lib.hid (hf0.mono BS0.out.below.size)
      clear kz hb2 hf0
      go_wp2
      refine bodyPost_ret (v := .tuple #[.agg #[.slice D0 0 c0], .int .i64 0]) (by simp [results, Try.results53, go_sem, qz]) rfl ?_
      exact ⟨num_zero rfl HF.out, bse HB.out (Nat.le_refl _) _ _⟩
set_option maxHeartbeats 2000000 in
theorem choices_any (w : World) {n m : Nat} (hn : n ≤ 80) (hm : m ≤ 80) (i j : Int) :
    Calls Try.prog 93 #[.int .i64 (n : Int), .int .i64 i, .int .i64 (m : Int), .int .i64 j] w fun e w' => Num1 w.heap.size w' e (cz n i * cz m j) ∧ Below w.heap.size w w' := by
  have BS0 := Lib.hid (box1z w (.slice none 0 0))
  have hx := cz_len hn i
  have hy := cz_len hm j
  obtain ⟨x, hx2⟩ : ∃ x, x = cz n i := ⟨_, rfl⟩
  obtain ⟨y, hy2⟩ : ∃ y, y = cz m j := ⟨_, rfl⟩
  have K1 := fun w' => choose_any w' hn i
  have K2 := fun w' => choose_any w' hm j
  rw [← hx2] at hx K1 ⊢
  rw [← hy2] at hy K2 ⊢
  have HP := Lib.hid (prod_len hx hy)
  have HX := Lib.hid hx
  have HY := Lib.hid hy
  have HK1 := Lib.hid K1
  have HK2 := Lib.hid K2
  clear K1 K2 hx2 hy2 hx hy
  go_enter Try.func93, Try.ntmps93
  go_wp2_with fail
  (with_reducible refine (HK1.out _).mono ?_)
  rintro e w1 ⟨⟨Da, la, ca, rfl, hl, hc, hf⟩, hb⟩
  have BQ := Lib.hid (BS0.out.on hb)
  have BS1 := Lib.hid (BQ.out.alloc TN #[.slice Da la ca])
  have Ca := Lib.hid (hc.alloc (.cells #[.slice Da la ca] TN))
  have La := Lib.hid hl
  clear hb hc hl hf BS0
  go_wp2_with fail
  (with_reducible refine (HK2.out _).mono ?_)
  rintro e w2 ⟨⟨Db, lb, cb, rfl, hl, hc, hf⟩, hb⟩
  clear BQ
  have BQ := Lib.hid (BS1.out.on hb)
  have BS2 := Lib.hid (BQ.out.alloc TN #[.slice Db lb cb])
  replace Ca := Lib.hid ((Ca.out.below hb).alloc (.cells #[.slice Db lb cb] TN))
  have Cb := Lib.hid (hc.alloc (.cells #[.slice Db lb cb] TN))
  have Lb := Lib.hid hl
  clear hb hc hl hf BS1
  have q := BQ.out.get (.head _)
  have qla := q.2.1
  have qaa_0 : w2.cell? ⟨w1.heap.size, 0, none⟩ = some (.slice Da la ca) := q.2.2.cell 0
  clear q
  have ha64 : la ≤ 64 := by rw [La.out]; exact Nat.le_trans HX.out (by omega)
  have hb64 : lb ≤ 64 := by rw [Lb.out]; exact Nat.le_trans HY.out (by omega)
  go_wp2_with fail
  refine (mul_any (x := x) (y := y) ha64 hb64 La.out Lb.out Ca.out Cb.out).mono ?_
  rintro e w3 ⟨hr, hb⟩
  rcases hr with ⟨_, Dp, cp, rfl, _, hcp, hfp⟩ | ⟨h9, _⟩
  case inr => exact absurd h9 (by have := HP.out; omega)
  obtain ⟨lp, hlp⟩ : ∃ l, l = L32 (x * y) := ⟨_, rfl⟩
  rw [← hlp] at hcp ⊢
  have HLP := Lib.hid hlp
  have BS3 := Lib.hid (BS2.out.on hb)
  have HCP := Lib.hid hcp
  have HFP := Lib.hid hfp
  have HZ := Lib.hid (BS2.out.get (.tail _ (.tail _ (.head _)))).2.1
  have HW := Lib.hid BS2.out.below.size
  clear hb hcp hfp hlp
  clear qla qaa_0
  clear BQ BS2
  obtain ⟨_, lz, kz⟩ := BS3.out.get (.tail _ (.tail _ (.head _)))
  have qz : w3.cell? ⟨w.heap.size, 0, none⟩ = some (.slice none 0 0) := kz.cell 0
  have fz : w3.frozen? ⟨w.heap.size, 0, none⟩ = false := kz.frozen 0
  have HB7 := Lib.hid BS3.out.below
  clear kz
  unfold natv
  go_wp2
  refine bodyPost_ret (v := .tuple #[.agg #[.slice Dp lp cp], .int .i64 0]) (by simp [results, Try.results93, go_sem, qz]) rfl ?_
  exact ⟨⟨Dp, lp, cp, rfl, HLP.out, HCP.out.set_ HFP.out HZ.out _ _, HFP.out.mono HW.out⟩, bse HB7.out (Nat.le_refl _) _ _⟩
/-- The arrangements of a and b elements with r runs. -/
def arr (a b : Nat) (r : Int) : Nat := if r < 2 ∨ (a : Int) + b < r then 0 else
  cz (a - 1) (if r % 2 = 1 then r / 2 else r / 2 - 1) * cz (b - 1) (r / 2 - 1) + cz (a - 1) (r / 2 - 1) * cz (b - 1) (if r % 2 = 1 then r / 2 else r / 2 - 1)
theorem arr_len {a b : Nat} (ha : a ≤ 80) (hb : b ≤ 80) (r : Int) : L32 (arr a b r) ≤ 35 := by
  unfold arr
  split
  · rw [L32_zero.2 rfl]; omega
  · exact sum_len (a := 34) (prod_len (cz_len (by omega) _) (cz_len (by omega) _)) (prod_len (cz_len (by omega) _) (cz_len (by omega) _))
set_option maxHeartbeats 2000000 in
theorem arr_none (w : World) {a b : Nat} {r : Int} (ha : a ≤ 80) (hb : b ≤ 80) (h : r < 2 ∨ 2 ≤ r ∧ (a : Int) + b < r) :
    Calls Try.prog 62 #[.int .i64 (a : Int), .int .i64 (b : Int), .int .i64 r] w fun e w' => Num1 w.heap.size w' e 0 ∧ Below w.heap.size w w' := by
  have BS0 := Lib.hid (box1z w (.slice none 0 0))
  have hw : IntKind.i64.wrap ((a : Int) + (b : Int)) = (a : Int) + (b : Int) := IntWalk.i64_in _ (by omega)
  have h0 : L32 0 = 0 := L32_zero.2 rfl
  rcases h with hc | ⟨hc1, hc2⟩
  all_goals
    go_enter Try.func62, Try.ntmps62
    go_wp2_with fail
    refine (of_new 0 (by omega) _).mono ?_
    rintro e w2 ⟨D0, c0, rfl, _, _, hf0, hb2⟩
    rw [h0]
    obtain ⟨_, lz, kz⟩ := (BS0.out.on hb2).get (.head _)
    have HB := Lib.hid (BS0.out.on hb2).below
    have qz : w2.cell? ⟨w.heap.size, 0, none⟩ = some (.slice none 0 0) := kz.cell 0
    have fz : w2.frozen? ⟨w.heap.size, 0, none⟩ = false := kz.frozen 0
    have HF := Lib.hid (hf0.mono BS0.out.below.size)
    clear kz hb2 hf0
    go_wp2
    refine bodyPost_ret (v := .tuple #[.agg #[.slice D0 0 c0], .int .i64 0]) (by simp [results, Try.results62, go_sem, qz]) rfl ?_
    exact ⟨num_zero rfl HF.out, bse HB.out (Nat.le_refl _) _ _⟩
set_option maxHeartbeats 2000000 in
theorem arr_some (w : World) {n m : Nat} {a b r s j i : Int} (hn : n ≤ 80) (hm : m ≤ 80) (ha : a = (n : Int) + 1) (hb : b = (m : Int) + 1) (h1 : 2 ≤ r) (h2 : r ≤ a + b) (hs : s = r / 2) (hj : j = s - 1) (hi : i = if r % 2 = 1 then s else j) :
    Calls Try.prog 62 #[.int .i64 a, .int .i64 b, .int .i64 r] w fun e w' => Num1 w.heap.size w' e (cz n i * cz m j + cz n j * cz m i) ∧ Below w.heap.size w w' := by
  have BS0 := Lib.hid (box1z w (.slice none 0 0))
  obtain ⟨x, hx⟩ : ∃ x, x = cz n i * cz m j := ⟨_, rfl⟩
  obtain ⟨y, hy⟩ : ∃ x, x = cz n j * cz m i := ⟨_, rfl⟩
  have K1 := fun w' => choices_any w' hn hm i j
  have K2 := fun w' => choices_any w' hn hm j i
  have hx34 : L32 x ≤ 34 := by rw [hx]; exact prod_len (cz_len hn i) (cz_len hm j)
  have hy34 : L32 y ≤ 34 := by rw [hy]; exact prod_len (cz_len hn j) (cz_len hm i)
  rw [← hx] at K1 ⊢
  rw [← hy] at K2 ⊢
  have HS := Lib.hid (sum_len hx34 hy34)
  have HX := Lib.hid hx34
  have HY := Lib.hid hy34
  have HK1 := Lib.hid K1
  have HK2 := Lib.hid K2
  have hw1 : IntKind.i64.wrap (a + b) = a + b := IntWalk.i64_in _ (by omega)
  have hw2 : IntKind.i64.wrap (a - 1) = (n : Int) := by rw [IntWalk.i64_in _ (by omega)]; omega
  have hw3 : IntKind.i64.wrap (b - 1) = (m : Int) := by rw [IntWalk.i64_in _ (by omega)]; omega
  have hw4 : IntKind.i64.wrap (s - 1) = j := by rw [IntWalk.i64_in _ (by omega)]; omega
  have hd : r.tdiv 2 = s := by rw [hs]; exact Int.tdiv_eq_ediv_of_nonneg (by omega)
  have hw5 : IntKind.i64.wrap s = s := IntWalk.i64_in _ (by omega)
  have hq : r.tmod 2 = r % 2 := Int.tmod_eq_emod_of_nonneg (by omega)
  have g1 : (r < 2) = False := eq_false (by omega)
  have g2 : (a + b < r) = False := eq_false (by omega)
  have hcase : ((r % 2 == 1) = true ∧ i = s) ∨ ((r % 2 == 1) = false ∧ i = j) := by
    by_cases h : r % 2 = 1
    · exact .inl ⟨by simp [h], by rw [hi, if_pos h]⟩
    · exact .inr ⟨by simp [h], by rw [hi, if_neg h]⟩
  clear K1 K2 hx hy hx34 hy34 hs hj hi ha hb h1 h2
  rcases hcase with ⟨hc, hi⟩ | ⟨hc, hi⟩
  all_goals
    subst hi
    go_enter Try.func62, Try.ntmps62
    go_wp2_with fail
    refine (HK1.out _).mono ?_
    rintro e w1 ⟨⟨Da, la, ca, rfl, hl, hc, hf⟩, hb⟩
    have BQ := Lib.hid (BS0.out.on hb)
    have BS1 := Lib.hid (BQ.out.alloc TN #[.slice Da la ca])
    have Ca := Lib.hid (hc.alloc (.cells #[.slice Da la ca] TN))
    have La := Lib.hid hl
    clear hb hc hl hf BS0
    go_wp2_with fail
    refine (HK2.out _).mono ?_
    rintro e w2 ⟨⟨Db, lb, cb, rfl, hl, hc, hf⟩, hb⟩
    clear BQ
    have BQ := Lib.hid (BS1.out.on hb)
    have BS2 := Lib.hid (BQ.out.alloc TN #[.slice Db lb cb])
    replace Ca := Lib.hid ((Ca.out.below hb).alloc (.cells #[.slice Db lb cb] TN))
    have Cb := Lib.hid (hc.alloc (.cells #[.slice Db lb cb] TN))
    have Lb := Lib.hid hl
    clear hb hc hl hf BS1
    have q := BQ.out.get (.head _)
    have qla := q.2.1
    have qaa_0 : w2.cell? ⟨w1.heap.size, 0, none⟩ = some (.slice Da la ca) := q.2.2.cell 0
    clear q
    have ha64 : la ≤ 64 := by rw [La.out]; exact Nat.le_trans HX.out (by omega)
    have hb64 : lb ≤ 64 := by rw [Lb.out]; exact Nat.le_trans HY.out (by omega)
    go_wp2_with fail
    refine (add_any (x := x) (y := y) ha64 hb64 La.out Lb.out Ca.out Cb.out).mono ?_
    rintro e w3 ⟨hr, hb⟩
    rcases hr with ⟨_, Dp, cp, rfl, _, hcp, hfp⟩ | ⟨h9, _⟩
    case inr => exact absurd h9 (by have := HS.out; omega)
    obtain ⟨lp, hlp⟩ : ∃ l, l = L32 (x + y) := ⟨_, rfl⟩
    rw [← hlp] at hcp ⊢
    have HLP := Lib.hid hlp
    have BS3 := Lib.hid (BS2.out.on hb)
    have HCP := Lib.hid hcp
    have HFP := Lib.hid hfp
    have HZ := Lib.hid (BS2.out.get (.tail _ (.tail _ (.head _)))).2.1
    have HW := Lib.hid BS2.out.below.size
    clear hb hcp hfp hlp
    clear qla qaa_0
    clear BQ BS2
    obtain ⟨_, lz, kz⟩ := BS3.out.get (.tail _ (.tail _ (.head _)))
    have qz : w3.cell? ⟨w.heap.size, 0, none⟩ = some (.slice none 0 0) := kz.cell 0
    have fz : w3.frozen? ⟨w.heap.size, 0, none⟩ = false := kz.frozen 0
    have HB7 := Lib.hid BS3.out.below
    clear kz
    unfold natv
    go_wp2
    refine bodyPost_ret (v := .tuple #[.agg #[.slice Dp lp cp], .int .i64 0]) (by simp [results, Try.results62, go_sem, qz]) rfl ?_
    exact ⟨⟨Dp, lp, cp, rfl, HLP.out, HCP.out.set_ HFP.out HZ.out _ _, HFP.out.mono HW.out⟩, bse HB7.out (Nat.le_refl _) _ _⟩
theorem arr_any (w : World) {a b : Nat} (r : Int) (ha : 1 ≤ a) (hb : 1 ≤ b) (ha2 : a ≤ 80) (hb2 : b ≤ 80) :
    Calls Try.prog 62 #[.int .i64 (a : Int), .int .i64 (b : Int), .int .i64 r] w fun e w' => Num1 w.heap.size w' e (arr a b r) ∧ Below w.heap.size w w' := by
  unfold arr
  by_cases h : r < 2 ∨ (a : Int) + b < r
  · rw [if_pos h]
    exact arr_none w ha2 hb2 (by omega)
  · rw [if_neg h]
    exact arr_some w (n := a - 1) (m := b - 1) (by omega) (by omega) (by omega) (by omega) (by omega) (by omega) rfl rfl rfl
theorem cl_pos {n k : Nat} (hk : k ≤ n) : ∀ i, i ≤ k → 0 < cl n k i
  | 0, _ => by rw [cl]; omega
  | i + 1, h => by
    have ih := cl_pos hk i (by omega)
    rw [cl]
    refine Nat.div_pos ?_ (by omega)
    calc i + 1 ≤ n - k + (i + 1) := by omega
      _ = 1 * (n - k + (i + 1)) := by omega
      _ ≤ cl n k i * (n - k + (i + 1)) := Nat.mul_le_mul_right _ ih
theorem cb_pos {n k : Nat} (hk : k ≤ n) : 0 < cb n k := cl_pos hk k (Nat.le_refl k)
theorem cb_zero (n : Nat) : cb n 0 = 1 := rfl
theorem cl_self (n : Nat) : ∀ i, cl n n i = 1
  | 0 => rfl
  | i + 1 => by rw [cl, cl_self n i, Nat.sub_self, Nat.zero_add, Nat.one_mul, Nat.div_self (by omega)]
theorem cb_self (n : Nat) : cb n n = 1 := cl_self n n
/-- The numerator of the chance of r runs. -/
def rc (a b : Nat) (r : Int) : Nat := if a = 0 ∨ b = 0 then (if r = min ((a : Int) + b) 1 then 1 else 0) else arr a b r
theorem rc_len {a b : Nat} (ha : a ≤ 80) (hb : b ≤ 80) (r : Int) : L32 (rc a b r) ≤ 35 := by
  unfold rc
  split
  · split
    · exact Nat.le_trans (fit32_le (N := 1) (n := 1) (by unfold Fit32; decide)) (by omega)
    · rw [L32_zero.2 rfl]; omega
  · exact arr_len ha hb r
set_option maxHeartbeats 4000000 in
theorem runs_bad (w : World) {a b r : Int} (ha : a ≤ 9223372036854775807) (h : a < 0 ∨ 0 ≤ a ∧ 80 < a ∨ 0 ≤ a ∧ a ≤ 80 ∧ b < 0 ∨ 0 ≤ a ∧ a ≤ 80 ∧ 0 ≤ b ∧ 80 - a < b) :
    Calls Try.prog 23 #[.int .i64 a, .int .i64 b, .int .i64 r] w fun e w' => Err e 2 ∧ Below w.heap.size w w' := by
  have BS0 := Lib.hid (box0 w)
  have HB7 := Lib.hid BS0.out.below
  rcases h with h | ⟨h1, h2⟩ | ⟨h1, h2, h3⟩ | ⟨h1, h2, h3, h4⟩
  all_goals
    try have hw : IntKind.i64.wrap (80 - a) = 80 - a := IntWalk.i64_in _ (by omega)
    go_enter Try.func23, Try.ntmps23
    go_wp2
    refine bodyPost_ret (v := .tuple #[fv none 0 0 none 0 0, .int .i64 2]) (by unfold fv; simp [results, Try.results23, go_sem]) rfl ?_
    refine ⟨rfl, ?_⟩
    repeat' (first | exact HB7.out | refine bl_alloc ?_ _ | refine bse ?_ (by first | assumption | exact Nat.le_refl _) _ _)
set_option maxHeartbeats 4000000 in
set_option maxRecDepth 100000 in
theorem runs_edge (w : World) {a b x y : Nat} {r m : Int} (ha : a ≤ 80) (hb : b ≤ 80 - a) (hab : a = 0 ∨ 0 < a ∧ b = 0) (hm : m = min ((a : Int) + (b : Int)) 1) (hx : r = m ∧ x = 1 ∨ r ≠ m ∧ x = 0) (hy : y = 1) :
    Calls Try.prog 23 #[.int .i64 (a : Int), .int .i64 (b : Int), .int .i64 r] w fun e w' => Res w.heap.size w' e (x / Nat.gcd x y) (y / Nat.gcd x y) ∧ Below w.heap.size w w' := by
  have BS0 := Lib.hid (box0 w)
  have hw : IntKind.i64.wrap (80 - (a : Int)) = 80 - (a : Int) := IntWalk.i64_in _ (by omega)
  have hw2 : IntKind.i64.wrap ((a : Int) + (b : Int)) = (a : Int) + (b : Int) := IntWalk.i64_in _ (by omega)
  have g1 : (80 - (a : Int) < (b : Int)) = False := eq_false (by omega)
  have g2 : (80 < (a : Int)) = False := eq_false (by omega)
  have HOF : Hid (∀ w', Below w.heap.size w w' → Calls Try.prog 35 #[.int .i64 (x : Int), .int .i64 1] w' fun e w'' => Res w'.heap.size w'' e (x / Nat.gcd x y) (y / Nat.gcd x y) ∧ Below w'.heap.size w' w'') := Lib.hid fun w' hw' => by
    subst hy
    exact of_ok w' (x := x) (y := 1) (by omega) (by omega) (by omega)
  obtain ⟨qa, hqa⟩ : ∃ v, v = x / Nat.gcd x y := ⟨_, rfl⟩
  obtain ⟨qb, hqb⟩ : ∃ v, v = y / Nat.gcd x y := ⟨_, rfl⟩
  rw [← hqa, ← hqb] at HOF ⊢
  clear hqa hqb
  have h0 : ((a : Int) == 0) = true ∨ ((a : Int) == 0) = false ∧ ((b : Int) == 0) = true := by
    rcases hab with h | ⟨h, h'⟩
    · exact .inl (by simp; omega)
    · exact .inr ⟨by simp; omega, by simp; omega⟩
  have hE : ((r == m) = true ∧ x = 1) ∨ ((r == m) = false ∧ x = 0) := by
    rcases hx with ⟨h, e⟩ | ⟨h, e⟩
    · exact .inl ⟨by simp [h], e⟩
    · exact .inr ⟨by simp [h], e⟩
  clear hab hx
  subst hm
  rcases h0 with h0 | ⟨h0, h0'⟩
  all_goals
    rcases hE with ⟨hE, rfl⟩ | ⟨hE, rfl⟩
  all_goals
    go_enter Try.func23, Try.ntmps23
    go_wp2_with fail
    refine (HOF.out _ BS0.out.below).mono ?_
    rintro e w5 ⟨⟨Da, ca, Db, cb', rfl, hla, hlb, hca, hcb, hfa, hfb⟩, hb5⟩
    have HZ6 := Lib.hid (BS0.out.get (.head _)).2.1
    have HW6 := Lib.hid BS0.out.below.size
    have BS5 := Lib.hid (BS0.out.on hb5)
    clear hb5
    obtain ⟨_, lz, kz⟩ := BS5.out.get (.head _)
    have s0 : w5.cell? ⟨w.heap.size, 0, none⟩ = some (.slice none 0 0) := kz.cell 0
    have s1 : w5.cell? ⟨w.heap.size, 1, none⟩ = some (.slice none 0 0) := kz.cell 1
    have f0 : w5.frozen? ⟨w.heap.size, 0, none⟩ = false := kz.frozen 0
    have f1 : w5.frozen? ⟨w.heap.size, 1, none⟩ = false := kz.frozen 1
    have HB7 := Lib.hid BS5.out.below
    clear kz
    obtain ⟨l1, hl1⟩ : ∃ l, l = L32 (qa) := ⟨_, rfl⟩
    obtain ⟨l2, hl2⟩ : ∃ l, l = L32 (qb) := ⟨_, rfl⟩
    rw [← hl1] at hla hca ⊢
    rw [← hl2] at hlb hcb ⊢
    have HL1 := Lib.hid hl1
    have HL2 := Lib.hid hl2
    have HCA := Lib.hid hca
    have HCB := Lib.hid hcb
    have HFA := Lib.hid hfa
    have HFB := Lib.hid hfb
    clear hl1 hl2 hca hcb hfa hfb
    unfold fv
    go_wp2
    refine bodyPost_ret (v := .tuple #[fv Da l1 ca Db l2 cb', .int .i64 0]) (by unfold fv; simp [results, Try.results23, go_sem, s0, s1]) rfl ?_
    refine ⟨⟨Da, ca, Db, cb', by rw [← HL1.out, ← HL2.out], by rw [← HL1.out]; exact hla, by rw [← HL2.out]; exact hlb, ?_, ?_, HFA.out.mono HW6.out, HFB.out.mono HW6.out⟩, ?_⟩
    · rw [← HL1.out]
      exact (HCA.out.set_ HFA.out HZ6.out _ _).set_ HFA.out HZ6.out _ _
    · rw [← HL2.out]
      exact (HCB.out.set_ HFB.out HZ6.out _ _).set_ HFB.out HZ6.out _ _
    · exact bse (bse HB7.out (Nat.le_refl _) _ _) (Nat.le_refl _) _ _
set_option maxHeartbeats 4000000 in
set_option maxRecDepth 100000 in
theorem runs_in (w : World) {a b x y : Nat} {r : Int} (ha : 0 < a) (hb0 : 0 < b) (hb : b ≤ 80 - a) (hx : x = arr a b r) (hy : y = cb (a + b) a) :
    Calls Try.prog 23 #[.int .i64 (a : Int), .int .i64 (b : Int), .int .i64 r] w fun e w' => Res w.heap.size w' e (x / Nat.gcd x y) (y / Nat.gcd x y) ∧ Below w.heap.size w w' := by
  have BS0 := Lib.hid (box0 w)
  have hw : IntKind.i64.wrap (80 - (a : Int)) = 80 - (a : Int) := IntWalk.i64_in _ (by omega)
  have hw2 : IntKind.i64.wrap ((a : Int) + (b : Int)) = ((a + b : Nat) : Int) := by rw [IntWalk.i64_in _ (by omega)]; omega
  have g1 : (80 - (a : Int) < (b : Int)) = False := eq_false (by omega)
  have g2 : (80 < (a : Int)) = False := eq_false (by omega)
  have g3 : ((a : Int) == 0) = false := by simp; omega
  have g4 : ((b : Int) == 0) = false := by simp; omega
  have K1 := fun w' => arr_any w' r ha hb0 (show a ≤ 80 by omega) (show b ≤ 80 by omega)
  have K2 := fun w' => choose_any w' (n := a + b) (by omega) (a : Int)
  rw [← hx] at K1
  rw [show cz (a + b) (a : Int) = y by unfold cz; rw [if_pos (by omega), hy]; rfl] at K2
  have HX := Lib.hid (show L32 x ≤ 64 by rw [hx]; exact Nat.le_trans (arr_len (by omega) (by omega) r) (by omega))
  have HY := Lib.hid (show L32 y ≤ 64 by rw [hy]; exact Nat.le_trans (cb_len (by omega) (by omega)) (by omega))
  have HY0 := Lib.hid (show 0 < y by rw [hy]; exact cb_pos (by omega))
  have HK1 := Lib.hid K1
  have HK2 := Lib.hid K2
  obtain ⟨qa, hqa⟩ : ∃ v, v = x / Nat.gcd x y := ⟨_, rfl⟩
  obtain ⟨qb, hqb⟩ : ∃ v, v = y / Nat.gcd x y := ⟨_, rfl⟩
  rw [← hqa, ← hqb]
  have HQA := Lib.hid hqa
  have HQB := Lib.hid hqb
  obtain ⟨s, hs⟩ : ∃ s, s = a + b := ⟨_, rfl⟩
  rw [← hs] at hw2 HK2
  clear K1 K2 hx hy hqa hqb hs
  go_enter Try.func23, Try.ntmps23
  go_wp2_with fail
  refine (HK1.out _).mono ?_
  rintro e w1 ⟨⟨Da, la, ca, rfl, hl, hc, hf⟩, hb⟩
  have BQ := Lib.hid (BS0.out.on hb)
  have BS1 := Lib.hid (BQ.out.alloc TN #[.slice Da la ca])
  have Ca := Lib.hid (hc.alloc (.cells #[.slice Da la ca] TN))
  have La := Lib.hid hl
  clear hb hc hl hf BS0
  go_wp2_with fail
  refine (HK2.out _).mono ?_
  rintro e w2 ⟨⟨Db, lb, cb, rfl, hl, hc, hf⟩, hb⟩
  clear BQ
  have BQ := Lib.hid (BS1.out.on hb)
  have BS2 := Lib.hid (BQ.out.alloc TN #[.slice Db lb cb])
  replace Ca := Lib.hid ((Ca.out.below hb).alloc (.cells #[.slice Db lb cb] TN))
  have Cb := Lib.hid (hc.alloc (.cells #[.slice Db lb cb] TN))
  have Lb := Lib.hid hl
  clear hb hc hl hf BS1
  have q := BQ.out.get (.head _)
  have qla := q.2.1
  have qaa_0 : w2.cell? ⟨w1.heap.size, 0, none⟩ = some (.slice Da la ca) := q.2.2.cell 0
  clear q
  have ha64 : la ≤ 64 := by rw [La.out]; exact HX.out
  have hb64 : lb ≤ 64 := by rw [Lb.out]; exact HY.out
  go_wp2_with fail
  refine (make_any (x := x) (y := y) ha64 hb64 La.out Lb.out Ca.out Cb.out HY0.out).mono ?_
  rintro e w5 ⟨⟨Da', ca', Db', cb', rfl, hla, hlb, hca, hcb, hfa, hfb⟩, hb5⟩
  rw [← HQA.out] at hla hca ⊢
  rw [← HQB.out] at hlb hcb ⊢
  have HZ6 := Lib.hid (BS2.out.get (.tail _ (.tail _ (.head _)))).2.1
  have HW6 := Lib.hid BS2.out.below.size
  have BS5 := Lib.hid (BS2.out.on hb5)
  clear hb5
  clear qla qaa_0
  clear BQ BS2
  obtain ⟨_, lz, kz⟩ := BS5.out.get (.tail _ (.tail _ (.head _)))
  have s0 : w5.cell? ⟨w.heap.size, 0, none⟩ = some (.slice none 0 0) := kz.cell 0
  have s1 : w5.cell? ⟨w.heap.size, 1, none⟩ = some (.slice none 0 0) := kz.cell 1
  have f0 : w5.frozen? ⟨w.heap.size, 0, none⟩ = false := kz.frozen 0
  have f1 : w5.frozen? ⟨w.heap.size, 1, none⟩ = false := kz.frozen 1
  have HB7 := Lib.hid BS5.out.below
  clear kz
  obtain ⟨l1, hl1⟩ : ∃ l, l = L32 (qa) := ⟨_, rfl⟩
  obtain ⟨l2, hl2⟩ : ∃ l, l = L32 (qb) := ⟨_, rfl⟩
  rw [← hl1] at hla hca ⊢
  rw [← hl2] at hlb hcb ⊢
  have HL1 := Lib.hid hl1
  have HL2 := Lib.hid hl2
  have HCA := Lib.hid hca
  have HCB := Lib.hid hcb
  have HFA := Lib.hid hfa
  have HFB := Lib.hid hfb
  clear hl1 hl2 hca hcb hfa hfb
  unfold fv
  go_wp2
  refine bodyPost_ret (v := .tuple #[fv Da' l1 ca' Db' l2 cb', .int .i64 0]) (by unfold fv; simp [results, Try.results23, go_sem, s0, s1]) rfl ?_
  refine ⟨⟨Da', ca', Db', cb', by rw [← HL1.out, ← HL2.out], by rw [← HL1.out]; exact hla, by rw [← HL2.out]; exact hlb, ?_, ?_, HFA.out.mono HW6.out, HFB.out.mono HW6.out⟩, ?_⟩
  · rw [← HL1.out]
    exact (HCA.out.set_ HFA.out HZ6.out _ _).set_ HFA.out HZ6.out _ _
  · rw [← HL2.out]
    exact (HCB.out.set_ HFB.out HZ6.out _ _).set_ HFB.out HZ6.out _ _
  · exact bse (bse HB7.out (Nat.le_refl _) _ _) (Nat.le_refl _) _ _
theorem runs_any (w : World) {a b : Nat} (r : Int) (ha : a ≤ 80) (hb : b ≤ 80 - a) :
    Calls Try.prog 23 #[.int .i64 (a : Int), .int .i64 (b : Int), .int .i64 r] w fun e w' => Res w.heap.size w' e (rc a b r / Nat.gcd (rc a b r) (cb (a + b) a)) (cb (a + b) a / Nat.gcd (rc a b r) (cb (a + b) a)) ∧ Below w.heap.size w w' := by
  by_cases h : a = 0 ∨ b = 0
  · have hy : cb (a + b) a = 1 := by
      rcases h with rfl | rfl
      · rfl
      · exact cb_self a
    refine runs_edge w (x := rc a b r) (y := cb (a + b) a) (m := min ((a : Int) + b) 1) ha hb (by omega) rfl ?_ hy
    unfold rc
    rw [if_pos h]
    by_cases hr : r = min ((a : Int) + b) 1
    · exact .inl ⟨hr, if_pos hr⟩
    · exact .inr ⟨hr, if_neg hr⟩
  · exact runs_in w (by omega) (by omega) hb (by unfold rc; rw [if_neg h]) rfl
end Fa
end Go.Proofs.Ytiflmnmkmpjecaa
