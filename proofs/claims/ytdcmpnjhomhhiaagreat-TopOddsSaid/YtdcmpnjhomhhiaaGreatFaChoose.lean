/- Binomial coefficients by their steps: plain facts, and the walk of comb.Choose. -/
import Derived.Test.YtdcmpnjhomhhiaaGreatG6
import Derived.Deep.RegionHeld3
import Derived.Deep.DeepCutAuto
set_option linter.unusedVariables false
namespace Go.Proofs.YtdcmpnjhomhhiaaGreat
open Go.RowKit
namespace Fa
open Fr
/-- The steps of a binomial coefficient. -/
def cl (n k : Nat) : Nat → Nat
  | 0 => 1
  | i + 1 => cl n k i * (n - k + (i + 1)) / (i + 1)
/-- The binomial coefficient. -/
def cb (n k : Nat) : Nat := cl n k k
theorem cl_le {n k : Nat} (hn : n ≤ 80) (hk : k ≤ n) : ∀ i, i ≤ k → cl n k i ≤ 80 ^ i
  | 0, _ => by rw [cl]; decide
  | i + 1, h => by
    have ih := cl_le hn hk i (by omega)
    rw [cl, Nat.pow_succ]
    exact Nat.le_trans (Nat.div_le_self _ _) (Nat.mul_le_mul ih (by omega))
theorem fit_pow {x i : Nat} (h : x ≤ 80 ^ i) (hi : i ≤ 81) : L32 x ≤ 17 := by
  refine fit32_le (n := 17) (Nat.lt_of_le_of_lt h ?_)
  refine Nat.lt_of_le_of_lt (Nat.pow_le_pow_right (by omega) hi) ?_
  decide
theorem cl_len {n k : Nat} (hn : n ≤ 80) (hk : k ≤ n) {i : Nat} (hi : i ≤ k) : L32 (cl n k i) ≤ 17 := fit_pow (cl_le hn hk i hi) (by omega)
theorem step_len {n k : Nat} (hn : n ≤ 80) (hk : k ≤ n) {i : Nat} (hi : i < k) : L32 (cl n k i * (n - k + (i + 1))) ≤ 17 := by
  refine fit_pow (i := i + 1) ?_ (by omega)
  rw [Nat.pow_succ]
  exact Nat.mul_le_mul (cl_le hn hk i (by omega)) (by omega)
theorem cb_len {n k : Nat} (hn : n ≤ 80) (hk : k ≤ n) : L32 (cb n k) ≤ 17 := cl_len hn hk (Nat.le_refl k)
/-- The result of a call that makes a number. -/
def Num1 (B : Nat) (w' : World) (e : Ending) (N : Nat) : Prop := ∃ D l c, e = .returned (.tuple #[.agg #[.slice D l c], .int .i64 0]) ∧ l = L32 N ∧ Cells w' D l (Lm (d32 N)) ∧ Fresh B D
theorem box1z (w : World) (S : Value) : Bs w (w.alloc (.cells #[S] TN)) [(w.heap.size, TN, #[S])] := (Bs.nil w).alloc TN #[S]
set_option maxHeartbeats 400000 in
theorem known_any (w : World) (n : Int) : Calls Tryz.prog 40 #[.int .i64 n] w fun e w' => e = .returned (.bool (decide (0 ≤ n ∧ n ≤ 80))) ∧ w = w' := by
  by_cases h1 : 0 ≤ n
  · by_cases h2 : n ≤ 80
    · have HD : Hid (decide (0 ≤ n ∧ n ≤ 80) = true) := Lib.hid (decide_eq_true ⟨h1, h2⟩)
      go_enter Tryz.func40, Tryz.ntmps40
      go_wp2
      go_ret
      exact ⟨by rw [HD.out]; rfl, rfl⟩
    · have e2 : (n ≤ 80) = False := eq_false h2
      have HD : Hid (decide (0 ≤ n ∧ n ≤ 80) = false) := Lib.hid (decide_eq_false (fun h => h2 h.2))
      clear h2
      go_enter Tryz.func40, Tryz.ntmps40
      go_wp2
      go_ret
      exact ⟨by rw [HD.out]; rfl, rfl⟩
  · have e2 : (0 ≤ n) = False := eq_false h1
    have HD : Hid (decide (0 ≤ n ∧ n ≤ 80) = false) := Lib.hid (decide_eq_false (fun h => h1 h.1))
    clear h1
    go_enter Tryz.func40, Tryz.ntmps40
    go_wp2
    go_ret
    exact ⟨by rw [HD.out]; rfl, rfl⟩
theorem cell_other {w : World} {b g i : Nat} {v u : Value} {t : TypeId} {cs : Array Value} (h : Blk w b t cs) (hv : cs[0]? = some v) (hne : b ≠ g) : (w.setCell ⟨g, i, none⟩ u).cell? ⟨b, 0, none⟩ = some v := ((h.other hne u).cell 0).trans hv
set_option maxHeartbeats 8000000 in
set_option maxRecDepth 100000 in
theorem choose_in {n k : Nat} {w : World} (hn : n ≤ 80) (hk : k ≤ n) :
    Calls Tryz.prog 34 #[.int .i64 (n : Int), .int .i64 (k : Int)] w fun e w' => Num1 w.heap.size w' e (cb n k) ∧ Below w.heap.size w w' := by
  have BS0 := Lib.hid (box1z w (.slice none 0 0))
  have hN : Hid (n ≤ 80) := Lib.hid hn
  have hK : Hid (k ≤ n) := Lib.hid hk
  have KN := known_any (w.alloc (.cells #[.slice none 0 0] TN)) (n : Int)
  rw [decide_eq_true (show (0 : Int) ≤ (n : Int) ∧ (n : Int) ≤ 80 by omega)] at KN
  have HKN := Lib.hid KN
  have e1 : ((k : Int) < 0) = False := eq_false (by omega)
  have e2 : ((n : Int) < (k : Int)) = False := eq_false (by omega)
  clear KN
  go_enter Tryz.func34, Tryz.ntmps34
  go_wp2_with fail
  refine HKN.out.mono ?_
  rintro e w1 ⟨rfl, rfl⟩
  clear HKN
  go_wp2_with fail
  refine (of_new 1 (by omega) _).mono ?_
  rintro e w2 ⟨D0, c0, rfl, _, hc0, hf0, hb2⟩
  obtain ⟨l0, hl0⟩ : ∃ l, l = L32 1 := ⟨_, rfl⟩
  rw [← hl0] at hc0 ⊢
  have HL0 := Lib.hid hl0
  have BS2 := (BS0.out.on hb2).alloc TN #[.slice D0 l0 c0]
  have HC0 := Lib.hid (hc0.alloc (.cells #[.slice D0 l0 c0] TN))
  obtain ⟨wa, hwa⟩ : ∃ wa, wa = w2.alloc (.cells #[.slice D0 l0 c0] TN) := ⟨_, rfl⟩
  obtain ⟨bc, hbc⟩ : ∃ b, b = w2.heap.size := ⟨_, rfl⟩
  obtain ⟨z, hz⟩ : ∃ b, b = w.heap.size := ⟨_, rfl⟩
  have hzc : z ≠ bc := by have := ((BS0.out.on hb2).get (.head _)).2.1; omega
  have hbw : w.heap.size ≤ bc := by have := (BS0.out.on hb2).below.size; omega
  have hzw : w.heap.size ≤ z := by omega
  have HF0 : Hid (Fresh (z + 1) D0) := Lib.hid (hf0.mono (by rw [World.size_alloc]; omega))
  rw [← hwa] at BS2 HC0
  rw [← hbc, ← hz] at BS2
  have BSL := Lib.hid BS2
  clear BS2 hc0 hf0 hl0 hb2 BS0
  go_wp2
  change Code.wp _ _ _ _ (w2.alloc (.cells #[.slice D0 l0 c0] TN))
  rw [← hwa]
  rw [show (Value.pointer (some ⟨w2.heap.size, 0, none⟩)) = .pointer (some ⟨bc, 0, none⟩) by rw [hbc], show (Value.pointer (some ⟨w.heap.size, 0, none⟩)) = .pointer (some ⟨z, 0, none⟩) by rw [hz]]
  clear hwa hbc hz
  go_loopw [7] (fun s7 wr => ∃ (i j : Nat) (D : Option Addr) (l c : Nat), i ≤ k ∧ Hid (j = i + 1) ∧ s7 = .int .i64 (j : Int) ∧ Hid (l = L32 (cl n k i)) ∧ Hid (Cells wr D l (Lm (d32 (cl n k i)))) ∧ Hid (Fresh (z + 1) D) ∧ Hid (Bs w wr [(bc, TN, #[.slice D l c]), (z, TN, #[.slice none 0 0])])) (fun s7 _ => k + 1 - (intOf s7).toNat)
  case atStart => exact ⟨0, 1, D0, l0, c0, Nat.zero_le _, Lib.hid rfl, rfl, HL0, HC0, HF0, BSL⟩
  case round =>
    obtain ⟨i, j, D, l, c, hi, HJ, rfl, HL, HC, HF, HBS⟩ := hrel
    have qc : wr.cell? ⟨bc, 0, none⟩ = some (.slice D l c) := (HBS.out.get (.head _)).2.2.cell 0
    have lc := (HBS.out.get (.head _)).2.1
    by_cases hik : i < k
    · obtain ⟨m, hm⟩ : ∃ m, m = n - k + j := ⟨_, rfl⟩
      have hj : j = i + 1 := HJ.out
      have hw1 : IntKind.i64.wrap ((n : Int) - (k : Int)) = (n : Int) - (k : Int) := IntWalk.i64_in _ (by omega)
      have hw2 : IntKind.i64.wrap ((n : Int) - (k : Int) + (j : Int)) = (m : Int) := by rw [IntWalk.i64_in _ (by omega)]; omega
      have hw3 : IntKind.u64.wrap (m : Int) = (m : Int) := IntWalk.u64_in _ (by omega)
      have hw4 : IntKind.u64.wrap (j : Int) = (j : Int) := IntWalk.u64_in _ (by omega)
      have hw5 : IntKind.i64.wrap ((j : Int) + 1) = (j : Int) + 1 := IntWalk.i64_in _ (by omega)
      have hjk : ((j : Int) ≤ (k : Int)) := by omega
      have hmn : m ≤ 80 := by omega
      have hj80 : j ≤ 80 := by omega
      have hj0 : 0 < j := by omega
      obtain ⟨x, hx⟩ : ∃ x, x = cl n k i := ⟨_, rfl⟩
      obtain ⟨p, hp⟩ : ∃ p, p = x * m := ⟨_, rfl⟩
      obtain ⟨q, hq⟩ : ∃ q, q = p / j := ⟨_, rfl⟩
      have HQ : Hid (cl n k (i + 1) = q) := Lib.hid (by rw [cl, hq, hp, hx, hm, hj])
      have hp17 : L32 p ≤ 17 := by rw [hp, hx, hm, hj]; exact step_len hN.out hK.out hik
      have hl17 : l ≤ 17 := by rw [HL.out]; exact cl_len hN.out hK.out (by omega)
      rw [← hx] at HL HC
      obtain ⟨lm, hlm⟩ : ∃ l, l = L32 m := ⟨_, rfl⟩
      obtain ⟨lj, hlj⟩ : ∃ l, l = L32 j := ⟨_, rfl⟩
      have hlm64 : lm ≤ 64 := by rw [hlm]; exact Nat.le_trans (fit32_le (N := m) (n := 2) (Nat.lt_of_le_of_lt hmn (by decide))) (by omega)
      have hlj64 : lj ≤ 64 := by rw [hlj]; exact Nat.le_trans (fit32_le (N := j) (n := 2) (Nat.lt_of_le_of_lt hj80 (by decide))) (by omega)
      obtain ⟨lp, hlp⟩ : ∃ l, l = L32 p := ⟨_, rfl⟩
      obtain ⟨lq, hlq⟩ : ∃ l, l = L32 q := ⟨_, rfl⟩
      rw [← hlp] at hp17
      have HM := Lib.hid hlm
      have HLJ := Lib.hid hlj
      have HP := Lib.hid hp
      have HLP := Lib.hid hlp
      have HLQ := Lib.hid hlq
      have HQ2 := Lib.hid hq
      have HIK := Lib.hid hik
      have HJ80 := Lib.hid hj80
      have HJ0 := Lib.hid hj0
      have HMN := Lib.hid hmn
      clear hm hj hx hp hq hlm hlj hlp hlq hik hi hj0 hmn hj80
      have HOF : Hid (∀ w', Below wr.heap.size wr w' → Calls Tryz.prog 12 #[.int .u64 (m : Int)] w' fun e w'' => ∃ D1 c1, e = .returned (.agg #[.slice D1 lm c1]) ∧ Cells w'' D1 lm (Lm (d32 m)) ∧ Below w'.heap.size w' w'' ∧ Below wr.heap.size wr w'') := Lib.hid fun w' hw => by
        refine (of_new m (Nat.lt_of_le_of_lt HMN.out (by decide)) w').mono ?_
        rintro e w'' ⟨D1, c1, rfl, _, h2, _, h3⟩
        rw [← HM.out] at h2 ⊢
        exact ⟨D1, c1, rfl, h2, h3, Below.on hw h3⟩
      have HMU : Hid (∀ w' D1 c1, Cells w' D1 lm (Lm (d32 m)) → Below wr.heap.size wr w' → Calls Tryz.prog 11 #[.agg #[.slice D l c], .agg #[.slice D1 lm c1]] w' fun e w'' => ∃ D2 c2, e = .returned (.tuple #[.agg #[.slice D2 lp c2], .int .i64 0]) ∧ Cells w'' D2 lp (Lm (d32 p)) ∧ Fresh w'.heap.size D2 ∧ Below w'.heap.size w' w'' ∧ Below wr.heap.size wr w'') := Lib.hid fun w' D1 c1 hc hw => by
        refine (mul_any (x := x) (y := m) (Nat.le_trans hl17 (by omega)) hlm64 HL.out HM.out (HC.out.below hw) hc).mono ?_
        rintro e w'' ⟨hr, hb⟩
        rw [← HP.out] at hr
        rcases hr with ⟨_, D2, c2, rfl, _, h5, h6⟩ | ⟨h9, _⟩
        · rw [← HLP.out] at h5 ⊢
          exact ⟨D2, c2, rfl, h5, h6, hb, Below.on hw hb⟩
        · exact absurd h9 (by rw [← show lp = L32 p from HLP.out]; omega)
      have HALL : Hid (∀ w', Below wr.heap.size wr w' → w'.cell? ⟨bc, 0, none⟩ = some (.slice D l c) ∧ Below wr.heap.size wr w') := Lib.hid fun w' hw => ⟨((HBS.out.on hw).get (.head _)).2.2.cell 0, hw⟩
      have A0 : Below wr.heap.size wr wr.drew := (Below.refl _ _).drew
      go_upto_region 9 with (fail)
      go_cut [8, 9] (fun s8 s9 wx => ∃ (b : Nat) (D2 : Option Addr) (c2 : Nat), s8 = .pointer (some ⟨b, 0, none⟩) ∧ s9 = .int .i64 0 ∧ Hid (Blk wx b TN #[.slice D2 lp c2]) ∧ wr.heap.size ≤ b ∧ Hid (Cells wx D2 lp (Lm (d32 p))) ∧ Hid (Below wr.heap.size wr wx))
      case first =>
        go_region_held3 (fun w' => w'.cell? ⟨bc, 0, none⟩ = some (.slice D l c) ∧ Below wr.heap.size wr w')
          ((refine HALL.out _ ?_; repeat' (first | exact (by assumption) | exact Below.refl _ _ | refine bl_alloc ?_ _ | refine bse ?_ (by first | omega | (simp; done) | (simp; omega)) _ _ | refine Below.drew ?_)))
          (first
            | (go_at_call 12; (with_reducible refine (HOF.out _ ?_).mono ?_); (first | assumption | exact bl_alloc (by assumption) _); rintro e5 w5 ⟨D5, c5, rfl, hc5, hb5, t5⟩; obtain ⟨bc5, bf5⟩ := bcell hb5; have s5 := t5.size)
            | (go_at_call 11; (with_reducible refine (HMU.out _ _ _ ?_ ?_).mono ?_); (first | exact hc5 | exact hc5.alloc _); (first | assumption | exact bl_alloc (by assumption) _); rintro e6 w6 ⟨D6, c6, rfl, hc6, hf6, hb6, t6⟩; obtain ⟨bc6, bf6⟩ := bcell hb6; have k56 : Below w5.heap.size w5 w6 := (by first | exact hb6 | exact bl_on (bl_alloc (Below.refl _ _) _) hb6); obtain ⟨bc56, bf56⟩ := bcell (bl_on hb5 k56); have s6 := t6.size)
            | fail)
        all_goals
          go_wp2_with fail
          go_meet
          case rel =>
            first
              | exact ⟨_, D6, c6, rfl, rfl, Lib.hid (Blk.new w6 _ _), s6, Lib.hid (hc6.alloc _), Lib.hid (bl_alloc t6 _)⟩
              | exact ⟨_, D6, c6, rfl, rfl, Lib.hid (((Blk.new w5 _ _).keep hb6).set_ 0 _), s5, Lib.hid (hc6.set_ hf6 (by simp) _ _), Lib.hid (bse t6 s5 _ _)⟩
              | exact ⟨_, D6, c6, rfl, rfl, Lib.hid ((((Blk.new wr.drew _ _).keep hb5).keep hb6).set_ 0 _), Nat.le_refl _, Lib.hid (hc6.set_ hf6 (by have h1 := hb5.size; simp at h1; omega) _ _), Lib.hid (bse t6 (Nat.le_refl _) _ _)⟩
      case rest =>
        obtain ⟨b, D2, c2, rfl, rfl, KB, hbr, HC2, BW⟩ := hcut
        have HB1 := Lib.hid (HBS.out.on BW.out)
        have hbcne : b ≠ bc := by omega
        have qb : wc.cell? ⟨b, 0, none⟩ = some (.slice D2 lp c2) := KB.out.cell 0
        have lb := KB.out.lt
        clear HOF HMU HALL A0 qc lc
        have HOF : Hid (∀ w', Below wc.heap.size wc w' → Calls Tryz.prog 12 #[.int .u64 (j : Int)] w' fun e w'' => ∃ D1 c1, e = .returned (.agg #[.slice D1 lj c1]) ∧ Cells w'' D1 lj (Lm (d32 j)) ∧ Below w'.heap.size w' w'' ∧ Below wc.heap.size wc w'') := Lib.hid fun w' hw => by
          refine (of_new j (Nat.lt_of_le_of_lt HJ80.out (by decide)) w').mono ?_
          rintro e w'' ⟨D1, c1, rfl, _, h2, _, h3⟩
          rw [← HLJ.out] at h2 ⊢
          exact ⟨D1, c1, rfl, h2, h3, Below.on hw h3⟩
        have HDM : Hid (∀ w' D1 c1, Cells w' D1 lj (Lm (d32 j)) → Below wc.heap.size wc w' → Calls Tryz.prog 54 #[.agg #[.slice D2 lp c2], .agg #[.slice D1 lj c1]] w' fun e w'' => ∃ D3 c3 E k3 r3, e = .returned (.tuple #[.agg #[.slice D3 lq c3], .agg #[.slice E r3 k3], .int .i64 0]) ∧ Cells w'' D3 lq (Lm (d32 q)) ∧ Fresh w'.heap.size D3 ∧ Below w'.heap.size w' w'' ∧ Below wc.heap.size wc w'') := Lib.hid fun w' D1 c1 hc hw => by
          refine (divmod_any (x := p) (y := j) (Nat.le_trans hp17 (by omega)) hlj64 HLP.out HLJ.out (HC2.out.below hw) hc HJ0.out).mono ?_
          rintro e w'' ⟨⟨D3, c3, E, k3, rfl, _, _, h1, h2, h3, h4⟩, hb⟩
          rw [← HQ2.out, ← HLQ.out] at h1
          exact ⟨D3, c3, E, k3, _, by rw [← HQ2.out, ← HLQ.out]; rfl, h1, h3, hb, Below.on hw hb⟩
        have HALL : Hid (∀ w', Below wc.heap.size wc w' → w'.cell? ⟨b, 0, none⟩ = some (.slice D2 lp c2)) := Lib.hid fun w' hw => ((bcell hw).1 _ _ lb).trans qb
        have fc : wc.frozen? ⟨bc, 0, none⟩ = false := (HB1.out.get (.head _)).2.2.frozen 0
        have lc := (HB1.out.get (.head _)).2.1
        have qc : wc.cell? ⟨bc, 0, none⟩ = some (.slice D l c) := (HB1.out.get (.head _)).2.2.cell 0
        have A0 : Below wc.heap.size wc wc.drew := (Below.refl _ _).drew
        go_upto_region 12 with (fail)
        go_cut [9] (fun s7 wx => s7 = .int .i64 0 ∧ ∃ (D3 : Option Addr) (c3 : Nat), Hid (Bs w wx [(bc, TN, #[.slice D3 lq c3]), (z, TN, #[.slice none 0 0])]) ∧ Hid (Cells wx D3 lq (Lm (d32 q))) ∧ Hid (Fresh (z + 1) D3))
        case first =>
          go_region_held3 (fun w' => w'.cell? ⟨b, 0, none⟩ = some (.slice D2 lp c2))
            (first | exact HALL.out _ (by assumption) | exact cell_other (KB.out.keep t6) rfl hbcne)
            (first
              | (go_at_call 12; (with_reducible refine (HOF.out _ ?_).mono ?_); (first | assumption | exact bl_alloc (by assumption) _); rintro e5 w5 ⟨D5, c5, rfl, hc5, hb5, t5⟩; have g5 : w5.cell? ⟨b, 0, none⟩ = some (.slice D2 lp c2) := ((bcell t5).1 _ _ lb).trans qb; have lb5 : b < w5.heap.size := Nat.lt_of_lt_of_le lb t5.size; have s5 := t5.size)
              | (go_at_call 54; (with_reducible refine (HDM.out _ _ _ ?_ ?_).mono ?_); (first | exact hc5 | exact hc5.alloc _); (first | assumption | exact bl_alloc (by assumption) _); rintro e6 w6 ⟨D6, c6, E6, k6, r6, rfl, hc6, hf6, hb6, t6⟩; have g6 : w6.cell? ⟨bc, 0, none⟩ = some (.slice D l c) := ((bcell t6).1 _ _ lc).trans qc; have h6 : w6.frozen? ⟨bc, 0, none⟩ = false := ((bcell t6).2 _ _ lc).trans fc; have s6 := t6.size)
              | fail)
          all_goals
            go_wp2_with fail
            go_meet
            case rel =>
              exact ⟨rfl, D6, c6, Lib.hid ((HB1.out.on t6).put (fun b' t' cs' hb => by simp at hb; omega) 0 _), Lib.hid (hc6.set_ hf6 (by have h1 := hb6.size; have h2 := hb5.size; simp at h1 h2; omega) _ _), Lib.hid (hf6.mono (by have h2 := hb5.size; have h3 := (HB1.out.get (.tail _ (.head _))).2.1; simp at h2; omega))⟩
        case rest =>
          obtain ⟨rfl, D3, c3, HBN, HCN, HFN⟩ := hcut
          go_wp2
          go_roundw
          case rel =>
            rw [← HQ.out] at HCN HLQ
            exact ⟨i + 1, j + 1, D3, lq, c3, HIK.out, Lib.hid (by rw [HJ.out]), by go_num, HLQ, HCN, HFN, HBN⟩
          case measure => have := HIK.out; have := HJ.out; simp [intOf] <;> omega
    · obtain rfl : i = k := by omega
      have hj : j = i + 1 := HJ.out
      have hjk : ((j : Int) ≤ (i : Int)) = False := eq_false (by omega)
      have qz : wr.cell? ⟨z, 0, none⟩ = some (.slice none 0 0) := (HBS.out.get (.tail _ (.head _))).2.2.cell 0
      have fz : wr.frozen? ⟨z, 0, none⟩ = false := (HBS.out.get (.tail _ (.head _))).2.2.frozen 0
      have lz := (HBS.out.get (.tail _ (.head _))).2.1
      have HB7 := Lib.hid HBS.out.below
      clear hj HJ hi
      go_wp2
      refine bodyPost_ret (v := .tuple #[.agg #[.slice D l c], .int .i64 0]) (by simp [results, Tryz.results34, go_sem, qz]) rfl ?_
      refine ⟨⟨D, l, c, rfl, HL.out, ?_, HF.out.mono (by omega)⟩, bse HB7.out hzw _ _⟩
      exact HC.out.set_ HF.out (Nat.lt_succ_self z) _ _
end Fa
end Go.Proofs.YtdcmpnjhomhhiaaGreat
