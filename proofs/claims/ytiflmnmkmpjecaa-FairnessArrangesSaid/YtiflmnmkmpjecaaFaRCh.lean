/- The walk of the reference's Choose (05). -/
import Derived.Test.YtiflmnmkmpjecaaFaChoose
import Derived.Test.YtiflmnmkmpjecaaNatRProd
import Derived.Test.YtiflmnmkmpjecaaG11
set_option linter.unusedVariables false
namespace Go.Proofs.Ytiflmnmkmpjecaa
open Go.RowKit
namespace Fa
open Fr
set_option maxHeartbeats 1000000 in
set_option maxRecDepth 100000 in
theorem rof_new (N : Nat) (hN : N < 18446744073709551616) (w : World) :
    Calls Try.prog 32 #[.int .u64 (N : Int)] w fun e w' => ∃ D c, e = .returned (.agg #[.slice D (L32 N) c]) ∧ L32 N ≤ c ∧ Cells w' D (L32 N) (Lm (d32 N)) ∧ Fresh w.heap.size D ∧ Below w.heap.size w w' := by
  obtain ⟨i0, hi, hz0, hz1, hz2⟩ := info_parts Try.infoU
  have hl2 := fit32_le (fit_two hN)
  have HB0 := Lib.hid ((Below.refl w.heap.size w).alloc (Nat.le_refl _) (.cells #[.slice none 0 0] 32))
  have HK0 := Lib.hid (Blk.new w 32 #[.slice none 0 0])
  have HB1 := Lib.hid (HB0.out.alloc HB0.out.size (.cells #[.slice none 0 0] 32))
  have HK1 := Lib.hid (HK0.out.alloc (.cells #[.slice none 0 0] 32))
  have HA1 : Hid (Blk ((w.alloc (.cells #[.slice none 0 0] 32)).alloc (.cells #[.slice none 0 0] 32)) (w.heap.size + 1) 32 #[.slice none 0 0]) := by
    have := Blk.new (w.alloc (.cells #[.slice none 0 0] 32)) 32 #[.slice none 0 0]
    rwa [World.size_alloc] at this
  go_enter Try.func32, Try.ntmps32
  go_wp2
  go_loopw [0] (fun i wr => ∃ (k : Nat) (v : Value), k ≤ L32 N ∧ i = .int .u64 (q32 N k : Int) ∧ Hid (wr.ownsRow (w.heap.size + 1 + 1) 88 1 v k (row (k * 1) (Lm (d32 N)))) ∧ Hid (Below w.heap.size w wr) ∧ Hid (Blk wr w.heap.size 32 #[.slice none 0 0]) ∧ Hid (Blk wr (w.heap.size + 1) 32 #[v])) (fun i _ => (intOf i).toNat)
  case atStart => exact ⟨0, _, Nat.zero_le _, by rw [q32_zero], World.ownsRow_nil _ _ _ _, HB1, HK1, HA1⟩
  case round =>
    obtain ⟨k, v, hk, rfl, HO, HB, HK, HA⟩ := hrel
    have hsz := HB.out.size
    have hlt := HA.out.lt
    have q1 : wr.cell? ⟨w.heap.size + 1, 0, none⟩ = some v := HA.out.cell 0
    have f1 : wr.frozen? ⟨w.heap.size + 1, 0, none⟩ = false := HA.out.frozen 0
    have hq := q32_next N k
    have hql := q32_le N k
    have hd := d32_lt N k
    have HQ := Lib.hid hq
    clear hq
    by_cases hkl : k < L32 N
    · have hp := q32_pos hkl
      have e1 := Lib.hid (show (q32 N k : Int) % 4294967296 = (d32 N k : Int) by have := HQ.out; omega)
      have e2 := Lib.hid (show (q32 N k : Int) / 4294967296 = (q32 N (k + 1) : Int) by have := HQ.out; omega)
      go_wp2_with (at_builtin; refine wpList_append_own _ rfl _ _ 30 rfl (w.heap.size + 1 + 1) 88 i0 (.int .u32 0) 1 4 Try.underlying30 hi hz0 hz1 hz2 rfl (by decide) _ _ _ rfl (HO.out.alloc _) ⟨wr.heap.size, 0, none⟩ 1 1 [.int .u32 ((q32 N k : Int) % 4294967296)] rfl rfl ?c1 ?c2 ?c3 ?c4 ?c5 ?_)
      try case c1 => exact fun j u hu => new_cell rfl (by simpa using hu)
      try case c2 => first | rfl | (intro u hu; simp at hu; subst hu; rfl)
      case c3 => unfold maxLen; omega
      case c4 => omega
      try case c5 => first | omega | (simp; omega)
      intro v' w3 hown' hgrow _
      have hlo : ∀ j, v.ownBlock = some j → w.heap.size + 1 + 1 ≤ j := fun j hj => (HO.out.lt j hj).1
      have HB3 := Lib.hid ((HB.out.alloc hsz (.cells #[.int .u32 ((q32 N k : Int) % 4294967296)] 88)).grown hgrow (by simp; omega) fun j hj => by have := hlo j hj; omega)
      have HK3 := Lib.hid ((HK.out.alloc (.cells #[.int .u32 ((q32 N k : Int) % 4294967296)] 88)).grown hgrow (by intro e; have := hlo _ e.symm; omega))
      have HA3 := Lib.hid ((HA.out.alloc (.cells #[.int .u32 ((q32 N k : Int) % 4294967296)] 88)).grown hgrow (by intro e; have := hlo _ e.symm; omega))
      have HO3 : Hid (w3.ownsRow (w.heap.size + 1 + 1) 88 1 v' (k + 1) (row ((k + 1) * 1) (Lm (d32 N)))) := by
        rw [e1.out] at hown'
        rw [Nat.mul_one, row_one, Lm_at]
        first | exact hown' | (rw [Nat.mul_one] at hown'; exact hown')
      clear hown' hgrow HO HB HK HA hlo q1 f1
      obtain ⟨Dv, cv, rfl, _⟩ := own_slice HO3.out
      have f1 : w3.frozen? ⟨w.heap.size + 1, 0, none⟩ = false := HA3.out.frozen 0
      have q1 : w3.cell? ⟨w.heap.size + 1, 0, none⟩ = some v := HA3.out.cell 0
      go_wp2
      go_roundw
      case rel => exact ⟨k + 1, _, by omega, by rw [e2.out], own_only HO3.out (only_set (only_refl _ _) 0 _) (by omega), HB3.out.setCell (by simp) _, HK3.out.grown (only_set (only_refl _ _) 0 _) (by intro e; injection e; omega), HA3.out.set_ 0 _⟩
      case measure => have := e2.out; simp [intOf]; omega
    · obtain rfl : k = L32 N := by omega
      have hz : q32 N (L32 N) ≤ 0 := by rw [q32_end (Nat.le_refl _)]; exact Nat.le_refl _
      obtain ⟨l, hl⟩ : ∃ l, l = L32 N := ⟨_, rfl⟩
      rw [← hl] at HO hz ⊢
      have HL := Lib.hid hl
      obtain ⟨D', c2, rfl, hcc⟩ := own_slice HO.out
      have HC := Lib.hid (Cells.of_own HO.out)
      have HF := Lib.hid (Fresh.of_own HO.out)
      have f0 : wr.frozen? ⟨w.heap.size, 0, none⟩ = false := HK.out.frozen 0
      have q0 : wr.cell? ⟨w.heap.size, 0, none⟩ = some (.slice none 0 0) := HK.out.cell 0
      clear hl
      go_wp2
      refine bodyPost_ret (v := .agg #[.slice D' l c2]) (by simp [results, Try.results32, go_sem, q0]) rfl ?_
      rw [← HL.out]
      have hcs := HC.out
      rw [Nat.mul_one] at hcs
      exact ⟨D', c2, rfl, hcc, hcs.set_ HF.out (by omega) _ _, HF.out.mono (by omega), HB.out.setCell (p := ⟨w.heap.size, 0, none⟩) (Nat.le_refl _) _⟩
set_option maxHeartbeats 400000 in
theorem in_any (w : World) (x m : Int) : Calls Try.prog 66 #[.int .i64 x, .int .i64 m] w fun e w' => e = .returned (.bool (decide (0 ≤ x ∧ x ≤ m))) ∧ w = w' := by
  by_cases h1 : 0 ≤ x
  · by_cases h2 : x ≤ m
    · have HD : Hid (decide (0 ≤ x ∧ x ≤ m) = true) := Lib.hid (decide_eq_true ⟨h1, h2⟩)
      go_enter Try.func66, Try.ntmps66
      go_wp2
      go_ret
      exact ⟨by rw [HD.out]; rfl, rfl⟩
    · have e2 : (x ≤ m) = False := eq_false h2
      have HD : Hid (decide (0 ≤ x ∧ x ≤ m) = false) := Lib.hid (decide_eq_false (fun h => h2 h.2))
      clear h2
      go_enter Try.func66, Try.ntmps66
      go_wp2
      go_ret
      exact ⟨by rw [HD.out]; rfl, rfl⟩
  · have e2 : (0 ≤ x) = False := eq_false h1
    have HD : Hid (decide (0 ≤ x ∧ x ≤ m) = false) := Lib.hid (decide_eq_false (fun h => h1 h.1))
    clear h1
    go_enter Try.func66, Try.ntmps66
    go_wp2
    go_ret
    exact ⟨by rw [HD.out]; rfl, rfl⟩
set_option maxHeartbeats 8000000 in
set_option maxRecDepth 100000 in
theorem rchoose_in {n k : Nat} {w : World} (hn : n ≤ 80) (hk : k ≤ n) :
    Calls Try.prog 92 #[.int .i64 (n : Int), .int .i64 (k : Int)] w fun e w' => Num1 w.heap.size w' e (cb n k) ∧ Below w.heap.size w w' := by
  have BS0 := Lib.hid (box1z w (.slice none 0 0))
  have hN : Hid (n ≤ 80) := Lib.hid hn
  have hK : Hid (k ≤ n) := Lib.hid hk
  have KN := fun w' => in_any w' (n : Int) 80
  have KM := fun w' => in_any w' (k : Int) (n : Int)
  rw [decide_eq_true (show (0 : Int) ≤ (n : Int) ∧ (n : Int) ≤ 80 by omega)] at KN
  rw [decide_eq_true (show (0 : Int) ≤ (k : Int) ∧ (k : Int) ≤ (n : Int) by omega)] at KM
  have HKN := Lib.hid KN
  have HKM := Lib.hid KM
  clear KN KM
  go_enter Try.func92, Try.ntmps92
  go_wp2_with fail
  (with_reducible refine (HKN.out _).mono ?_)
  rintro e w1 ⟨rfl, rfl⟩
  clear HKN
  go_wp2_with fail
  (with_reducible refine (HKM.out _).mono ?_)
  rintro e w1 ⟨rfl, rfl⟩
  clear HKM
  go_wp2_with fail
  refine (rof_new 1 (by omega) _).mono ?_
  rintro e w2 ⟨D0, c0, rfl, _, hc0, hf0, hb2⟩
  obtain ⟨l0, hl0⟩ : ∃ l, l = L32 1 := ⟨_, rfl⟩
  rw [← hl0] at hc0 ⊢
  have HL0 := Lib.hid hl0
  have BS2 := (BS0.out.on hb2).alloc TN #[.slice D0 l0 c0]
  have HC0 := Lib.hid (hc0.alloc (.cells #[.slice D0 l0 c0] TN))
  obtain ⟨wa, hwa⟩ : ∃ wa, wa = w2.alloc (.cells #[.slice D0 l0 c0] TN) := ⟨_, rfl⟩
  obtain ⟨bc, hbc⟩ : ∃ b, b = w2.heap.size := ⟨_, rfl⟩
  obtain ⟨z, hz⟩ : ∃ b, b = w.heap.size := ⟨_, rfl⟩
  have hzc : z ≠ bc := by have := ((BS0.out.on hb2).get (.head _)).2.1; omega
  have hbw : w.heap.size ≤ bc := by have := (BS0.out.on hb2).below.size; omega
  have hzw : w.heap.size ≤ z := by omega
  have HF0 : Hid (Fresh (z + 1) D0) := Lib.hid (hf0.mono (by rw [World.size_alloc]; omega))
  rw [← hwa] at BS2 HC0
  rw [← hbc, ← hz] at BS2
  have BSL := Lib.hid BS2
  clear BS2 hc0 hf0 hl0 hb2 BS0
  go_wp2
  change Code.wp _ _ _ _ (w2.alloc (.cells #[.slice D0 l0 c0] TN))
  rw [← hwa]
  rw [show (Value.pointer (some ⟨w2.heap.size, 0, none⟩)) = .pointer (some ⟨bc, 0, none⟩) by rw [hbc], show (Value.pointer (some ⟨w.heap.size, 0, none⟩)) = .pointer (some ⟨z, 0, none⟩) by rw [hz]]
  clear hwa hbc hz
  go_loopw [7] (fun s7 wr => ∃ (i j : Nat) (D : Option Addr) (l c : Nat), i ≤ k ∧ Hid (j = i + 1) ∧ s7 = .int .i64 (j : Int) ∧ Hid (l = L32 (cl n k i)) ∧ Hid (Cells wr D l (Lm (d32 (cl n k i)))) ∧ Hid (Fresh (z + 1) D) ∧ Hid (Bs w wr [(bc, TN, #[.slice D l c]), (z, TN, #[.slice none 0 0])])) (fun s7 _ => k + 1 - (intOf s7).toNat)
  case atStart => exact ⟨0, 1, D0, l0, c0, Nat.zero_le _, Lib.hid rfl, rfl, HL0, HC0, HF0, BSL⟩
  case round =>
    obtain ⟨i, j, D, l, c, hi, HJ, rfl, HL, HC, HF, HBS⟩ := hrel
    have qc : wr.cell? ⟨bc, 0, none⟩ = some (.slice D l c) := (HBS.out.get (.head _)).2.2.cell 0
    have lc := (HBS.out.get (.head _)).2.1
    by_cases hik : i < k
    · obtain ⟨m, hm⟩ : ∃ m, m = n - k + j := ⟨_, rfl⟩
      have hj : j = i + 1 := HJ.out
      have hw1 : IntKind.i64.wrap ((n : Int) - (k : Int)) = (n : Int) - (k : Int) := IntWalk.i64_in _ (by omega)
      have hw2 : IntKind.i64.wrap ((n : Int) - (k : Int) + (j : Int)) = (m : Int) := by rw [IntWalk.i64_in _ (by omega)]; omega
      have hw3 : IntKind.u64.wrap (m : Int) = (m : Int) := IntWalk.u64_in _ (by omega)
      have hw4 : IntKind.u64.wrap (j : Int) = (j : Int) := IntWalk.u64_in _ (by omega)
      have hw5 : IntKind.i64.wrap ((j : Int) + 1) = (j : Int) + 1 := IntWalk.i64_in _ (by omega)
      have hjk : ((j : Int) ≤ (k : Int)) := by omega
      have hmn : m ≤ 80 := by omega
      have hj80 : j ≤ 80 := by omega
      have hj0 : 0 < j := by omega
      obtain ⟨x, hx⟩ : ∃ x, x = cl n k i := ⟨_, rfl⟩
      obtain ⟨p, hp⟩ : ∃ p, p = x * m := ⟨_, rfl⟩
      obtain ⟨q, hq⟩ : ∃ q, q = p / j := ⟨_, rfl⟩
      have HQ : Hid (cl n k (i + 1) = q) := Lib.hid (by rw [cl, hq, hp, hx, hm, hj])
      have hp17 : L32 p ≤ 17 := by rw [hp, hx, hm, hj]; exact step_len hN.out hK.out hik
      have hl17 : l ≤ 17 := by rw [HL.out]; exact cl_len hN.out hK.out (by omega)
      rw [← hx] at HL HC
      obtain ⟨lm, hlm⟩ : ∃ l, l = L32 m := ⟨_, rfl⟩
      obtain ⟨lj, hlj⟩ : ∃ l, l = L32 j := ⟨_, rfl⟩
      have hlm64 : lm ≤ 64 := by rw [hlm]; exact Nat.le_trans (fit32_le (N := m) (n := 2) (Nat.lt_of_le_of_lt hmn (by decide))) (by omega)
      have hlj64 : lj ≤ 64 := by rw [hlj]; exact Nat.le_trans (fit32_le (N := j) (n := 2) (Nat.lt_of_le_of_lt hj80 (by decide))) (by omega)
      obtain ⟨lp, hlp⟩ : ∃ l, l = L32 p := ⟨_, rfl⟩
      obtain ⟨lq, hlq⟩ : ∃ l, l = L32 q := ⟨_, rfl⟩
      rw [← hlp] at hp17
      have HM := Lib.hid hlm
      have HLJ := Lib.hid hlj
      have HP := Lib.hid hp
      have HLP := Lib.hid hlp
      have HLQ := Lib.hid hlq
      have HQ2 := Lib.hid hq
      have HIK := Lib.hid hik
      have HJ80 := Lib.hid hj80
      have HJ0 := Lib.hid hj0
      have HMN := Lib.hid hmn
      clear hm hj hx hp hq hlm hlj hlp hlq hik hi hj0 hmn hj80
      have HOF : Hid (∀ w', Below wr.heap.size wr w' → Calls Try.prog 32 #[.int .u64 (m : Int)] w' fun e w'' => ∃ D1 c1, e = .returned (.agg #[.slice D1 lm c1]) ∧ Cells w'' D1 lm (Lm (d32 m)) ∧ Below w'.heap.size w' w'' ∧ Below wr.heap.size wr w'') := Lib.hid fun w' hw => by
        refine (rof_new m (Nat.lt_of_le_of_lt HMN.out (by decide)) w').mono ?_
        rintro e w'' ⟨D1, c1, rfl, _, h2, _, h3⟩
        rw [← HM.out] at h2 ⊢
        exact ⟨D1, c1, rfl, h2, h3, Below.on hw h3⟩
      have HMU : Hid (∀ w' D1 c1, Cells w' D1 lm (Lm (d32 m)) → Below wr.heap.size wr w' → Calls Try.prog 74 #[.agg #[.slice D l c], .agg #[.slice D1 lm c1]] w' fun e w'' => ∃ D2 c2, e = .returned (.tuple #[.agg #[.slice D2 lp c2], .int .i64 0]) ∧ Cells w'' D2 lp (Lm (d32 p)) ∧ Fresh w'.heap.size D2 ∧ Below w'.heap.size w' w'' ∧ Below wr.heap.size wr w'') := Lib.hid fun w' D1 c1 hc hw => by
        refine (refMul_any (x := x) (y := m) (Nat.le_trans hl17 (by omega)) hlm64 HL.out HM.out (HC.out.below hw) hc).mono ?_
        rintro e w'' ⟨hr, hb⟩
        rw [← HP.out] at hr
        rcases hr with ⟨_, D2, c2, rfl, _, h5, h6⟩ | ⟨h9, _⟩
        · rw [← HLP.out] at h5 ⊢
          exact ⟨D2, c2, rfl, h5, h6, hb, Below.on hw hb⟩
        · exact absurd h9 (by rw [← show lp = L32 p from HLP.out]; omega)
      have HALL : Hid (∀ w', Below wr.heap.size wr w' → w'.cell? ⟨bc, 0, none⟩ = some (.slice D l c) ∧ Below wr.heap.size wr w') := Lib.hid fun w' hw => ⟨((HBS.out.on hw).get (.head _)).2.2.cell 0, hw⟩
      have A0 : Below wr.heap.size wr wr.drew := (Below.refl _ _).drew
      go_upto_region 9 with (fail)
      go_cut [7] (fun s7 wx => s7 = .int .i64 (j : Int) ∧ ∃ (D2 : Option Addr) (c2 : Nat), Hid (Bs w wx [(bc, TN, #[.slice D2 lp c2]), (z, TN, #[.slice none 0 0])]) ∧ Hid (Cells wx D2 lp (Lm (d32 p))))
      case first =>
        have fc : wr.frozen? ⟨bc, 0, none⟩ = false := (HBS.out.get (.head _)).2.2.frozen 0
        go_region_with
          (first
            | (go_at_call 32; (with_reducible refine (HOF.out _ ?_).mono ?_); (first | assumption | exact bl_alloc (by assumption) _); rintro e5 w5 ⟨D5, c5, rfl, hc5, hb5, t5⟩; have g5 : w5.cell? ⟨bc, 0, none⟩ = some (.slice D l c) := ((bcell t5).1 _ _ lc).trans qc; have lc5 : bc < w5.heap.size := Nat.lt_of_lt_of_le lc t5.size; obtain ⟨bc5, bf5⟩ := bcell hb5; have s5 := t5.size)
            | (go_at_call 74; (with_reducible refine (HMU.out _ _ _ ?_ ?_).mono ?_); (first | exact hc5 | exact hc5.alloc _); (first | assumption | exact bl_alloc (by assumption) _); rintro e6 w6 ⟨D6, c6, rfl, hc6, hf6, hb6, t6⟩; have g6 : w6.cell? ⟨bc, 0, none⟩ = some (.slice D l c) := ((bcell t6).1 _ _ lc).trans qc; have h6 : w6.frozen? ⟨bc, 0, none⟩ = false := ((bcell t6).2 _ _ lc).trans fc; obtain ⟨bc6, bf6⟩ := bcell hb6; have k56 : Below w5.heap.size w5 w6 := (by first | exact hb6 | exact bl_on (bl_alloc (Below.refl _ _) _) hb6); obtain ⟨bc56, bf56⟩ := bcell (bl_on hb5 k56); have s6 := t6.size)
            | fail)
        all_goals
          go_wp2_with fail
          go_meet
          case rel =>
            exact ⟨rfl, D6, c6, Lib.hid ((HBS.out.on t6).put (fun b' t' cs' hb => by simp at hb; omega) 0 _), Lib.hid (hc6.set_ hf6 (by have h1 := hb6.size; have h2 := hb5.size; simp at h1 h2; omega) _ _)⟩
      case rest =>
        obtain ⟨rfl, D2, c2, HB1, HC2⟩ := hcut
        have qb : wc.cell? ⟨bc, 0, none⟩ = some (.slice D2 lp c2) := (HB1.out.get (.head _)).2.2.cell 0
        have lb := (HB1.out.get (.head _)).2.1
        clear HOF HMU HALL A0 qc lc
        have HOF : Hid (∀ w', Below wc.heap.size wc w' → Calls Try.prog 32 #[.int .u64 (j : Int)] w' fun e w'' => ∃ D1 c1, e = .returned (.agg #[.slice D1 lj c1]) ∧ Cells w'' D1 lj (Lm (d32 j)) ∧ Below w'.heap.size w' w'' ∧ Below wc.heap.size wc w'') := Lib.hid fun w' hw => by
          refine (rof_new j (Nat.lt_of_le_of_lt HJ80.out (by decide)) w').mono ?_
          rintro e w'' ⟨D1, c1, rfl, _, h2, _, h3⟩
          rw [← HLJ.out] at h2 ⊢
          exact ⟨D1, c1, rfl, h2, h3, Below.on hw h3⟩
        have HDM : Hid (∀ w' D1 c1, Cells w' D1 lj (Lm (d32 j)) → Below wc.heap.size wc w' → Calls Try.prog 80 #[.agg #[.slice D2 lp c2], .agg #[.slice D1 lj c1]] w' fun e w'' => ∃ D3 c3 E k3 r3, e = .returned (.tuple #[.agg #[.slice D3 lq c3], .agg #[.slice E r3 k3], .int .i64 0]) ∧ Cells w'' D3 lq (Lm (d32 q)) ∧ Fresh w'.heap.size D3 ∧ Below w'.heap.size w' w'' ∧ Below wc.heap.size wc w'') := Lib.hid fun w' D1 c1 hc hw => by
          refine (refDivmod_any (x := p) (y := j) (Nat.le_trans hp17 (by omega)) hlj64 HLP.out HLJ.out (HC2.out.below hw) hc HJ0.out).mono ?_
          rintro e w'' ⟨⟨D3, c3, E, k3, rfl, _, _, h1, h2, h3, h4⟩, hb⟩
          rw [← HQ2.out, ← HLQ.out] at h1
          exact ⟨D3, c3, E, k3, _, by rw [← HQ2.out, ← HLQ.out]; rfl, h1, h3, hb, Below.on hw hb⟩
        have HALL : Hid (∀ w', Below wc.heap.size wc w' → w'.cell? ⟨bc, 0, none⟩ = some (.slice D2 lp c2)) := Lib.hid fun w' hw => ((bcell hw).1 _ _ lb).trans qb
        have fc : wc.frozen? ⟨bc, 0, none⟩ = false := (HB1.out.get (.head _)).2.2.frozen 0
        have lc := (HB1.out.get (.head _)).2.1
        skip
        have A0 : Below wc.heap.size wc wc.drew := (Below.refl _ _).drew
        go_upto_region 10 with (fail)
        go_region_with
          (first
            | (go_at_call 32; (with_reducible refine (HOF.out _ ?_).mono ?_); (first | assumption | exact bl_alloc (by assumption) _); rintro e5 w5 ⟨D5, c5, rfl, hc5, hb5, t5⟩; have g5 : w5.cell? ⟨bc, 0, none⟩ = some (.slice D2 lp c2) := ((bcell t5).1 _ _ lb).trans qb; have lb5 : bc < w5.heap.size := Nat.lt_of_lt_of_le lb t5.size; have s5 := t5.size)
            | (go_at_call 80; (with_reducible refine (HDM.out _ _ _ ?_ ?_).mono ?_); (first | exact hc5 | exact hc5.alloc _); (first | assumption | exact bl_alloc (by assumption) _); rintro e6 w6 ⟨D6, c6, E6, k6, r6, rfl, hc6, hf6, hb6, t6⟩; have g6 : w6.cell? ⟨bc, 0, none⟩ = some (.slice D2 lp c2) := ((bcell t6).1 _ _ lc).trans qb; have h6 : w6.frozen? ⟨bc, 0, none⟩ = false := ((bcell t6).2 _ _ lc).trans fc; have s6 := t6.size)
            | fail)
        all_goals
          have HBN := Lib.hid ((HB1.out.on t6).put (i := 0) (u := .slice D6 lq c6) (fun b' t' cs' hb => by simp at hb; omega))
          have HCN := Lib.hid (hc6.set_ hf6 (g := bc) (by have h1 := hb6.size; have h2 := hb5.size; simp at h1 h2; omega) 0 (.slice D6 lq c6))
          have HFN := Lib.hid (hf6.mono (show z + 1 ≤ _ by have h2 := hb5.size; have h3 := (HB1.out.get (.tail _ (.head _))).2.1; simp at h2; omega))
          clear hc6 hf6
          go_wp2
          go_roundw
          case rel =>
            rw [← HQ.out] at HCN HLQ
            exact ⟨i + 1, j + 1, D6, lq, c6, HIK.out, Lib.hid (by rw [HJ.out]), by go_num, HLQ, HCN, HFN, HBN⟩
          case measure => have := HIK.out; have := HJ.out; simp [intOf] <;> omega
    · obtain rfl : i = k := by omega
      have hj : j = i + 1 := HJ.out
      have hjk : ((j : Int) ≤ (i : Int)) = False := eq_false (by omega)
      have qz : wr.cell? ⟨z, 0, none⟩ = some (.slice none 0 0) := (HBS.out.get (.tail _ (.head _))).2.2.cell 0
      have fz : wr.frozen? ⟨z, 0, none⟩ = false := (HBS.out.get (.tail _ (.head _))).2.2.frozen 0
      have lz := (HBS.out.get (.tail _ (.head _))).2.1
      have HB7 := Lib.hid HBS.out.below
      clear hj HJ hi
      go_wp2
      refine bodyPost_ret (v := .tuple #[.agg #[.slice D l c], .int .i64 0]) (by simp [results, Try.results92, go_sem, qz]) rfl ?_
      refine ⟨⟨D, l, c, rfl, HL.out, ?_, HF.out.mono (by omega)⟩, bse HB7.out hzw _ _⟩
      exact HC.out.set_ HF.out (Nat.lt_succ_self z) _ _
end Fa
end Go.Proofs.Ytiflmnmkmpjecaa
