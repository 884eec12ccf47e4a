/- The walk of nat.Parse. -/
import Derived.Test.YthjbkadhgcjnaaaNatRFmt
set_option linter.unusedVariables false
namespace Go.Proofs.Ythjbkadhgcjnaaa
open Go.RowKit

/-- The carry into limb j of N times ten plus d. -/
def tcar (N d j : Nat) : Nat := (N % 4294967296 ^ j * 10 + d) / 4294967296 ^ j
theorem tcar_zero (N d : Nat) : tcar N d 0 = d := by unfold tcar; rw [Nat.pow_zero, Nat.mod_one, Nat.div_one]; omega
theorem tcar_lt (N : Nat) {d : Nat} (hd : d < 10) (j : Nat) : tcar N d j < 10 := by
  unfold tcar
  refine (Nat.div_lt_iff_lt_mul (Nat.pow_pos (by omega))).2 ?_
  have := Nat.mod_lt N (Nat.pow_pos (n := j) (show 0 < 4294967296 by omega))
  generalize N % 4294967296 ^ j = r at *
  generalize 4294967296 ^ j = P at *
  omega
theorem tcar_step (N d j : Nat) : tcar N d j + d32 N j * 10 = 4294967296 * tcar N d (j + 1) + d32 (N * 10 + d) j := by
  have e : N % 4294967296 ^ (j + 1) * 10 + d = (N % 4294967296 ^ j * 10 + d) + 4294967296 ^ j * (d32 N j * 10) := by
    rw [Nt.mod_next]
    show (_ + _ * d32 N j) * 10 + d = _
    rw [Nat.add_mul, Nat.mul_assoc]; omega
  have h1 : tcar N d (j + 1) = (tcar N d j + d32 N j * 10) / 4294967296 := by
    unfold tcar
    rw [e, Nt.chain_c (by omega)]
  have h2 : d32 (N * 10 + d) j = (tcar N d j + d32 N j * 10) % 4294967296 := by
    have h3 : N * 10 + d = (N % 4294967296 ^ (j + 1) * 10 + d) + 4294967296 ^ (j + 1) * (N / 4294967296 ^ (j + 1) * 10) := by
      have := Nat.mod_add_div N (4294967296 ^ (j + 1))
      generalize N % 4294967296 ^ (j + 1) = r at *
      generalize N / 4294967296 ^ (j + 1) = q at *
      rw [← Nat.mul_assoc]
      generalize 4294967296 ^ (j + 1) * q = Q at *
      omega
    show Nt.dig 4294967296 (N * 10 + d) j = _
    rw [h3, Nt.chain_lo (by omega) _ _ (Nat.lt_succ_self j), e, Nt.chain_d (by omega)]; rfl
  rw [h1, h2, Nat.div_add_mod]
theorem tcar_end {N d n : Nat} (h : n = L32 N) : tcar N d n = (N * 10 + d) / 4294967296 ^ n := by
  unfold tcar
  rw [Nat.mod_eq_of_lt (by rw [h]; exact fit32_len N)]
theorem ten_same {N d n : Nat} (h : n = L32 N) (hc : tcar N d n = 0) : L32 (N * 10 + d) = n := by
  rw [tcar_end h] at hc
  have h1 : N * 10 + d < 4294967296 ^ n := by
    rcases Nat.lt_or_ge (N * 10 + d) (4294967296 ^ n) with h2 | h2
    · exact h2
    · have := Nat.div_pos h2 (Nat.pow_pos (show 0 < 4294967296 by omega)); omega
  have h2 : L32 (N * 10 + d) ≤ n := fit32_le h1
  have h3 : L32 N ≤ L32 (N * 10 + d) := Nt.len_mono (by omega) (by omega)
  omega
theorem ten_more {N d n : Nat} (h : n = L32 N) (hd : d < 10) (hc : 0 < tcar N d n) : L32 (N * 10 + d) = n + 1 ∧ d32 (N * 10 + d) n = tcar N d n := by
  have hl := tcar_lt N hd n
  have he := tcar_end (d := d) h
  have h1 : d32 (N * 10 + d) n = tcar N d n := by
    show (N * 10 + d) / 4294967296 ^ n % 4294967296 = _
    rw [← he]; exact Nat.mod_eq_of_lt (by omega)
  refine ⟨len32_end ?_ (.inr (by rw [Nat.add_sub_cancel, h1]; omega)), h1⟩
  show N * 10 + d < 4294967296 ^ (n + 1)
  rw [Nat.pow_succ]
  have h2 := Nat.div_add_mod (N * 10 + d) (4294967296 ^ n)
  have h3 := Nat.mod_lt (N * 10 + d) (Nat.pow_pos (n := n) (show 0 < 4294967296 by omega))
  rw [← he] at h2
  have h4 : 4294967296 ^ n * tcar N d n ≤ 4294967296 ^ n * 9 := Nat.mul_le_mul_left _ (by omega)
  generalize 4294967296 ^ n = P at *
  omega
/-- The limbs while those below j are done. -/
def tnew (N d j t : Nat) : Nat := if t < j then d32 (N * 10 + d) t else d32 N t
theorem tnew_next (N d j t : Nat) : Lm (tnew N d (j + 1)) t = if t = j then .int .u32 (d32 (N * 10 + d) j : Int) else Lm (tnew N d j) t := by
  unfold Lm tnew
  by_cases e : t = j
  · subst e; rw [if_pos (by omega), if_pos rfl]
  · rw [if_neg e]
    by_cases h : t < j
    · rw [if_pos (by omega), if_pos h]
    · rw [if_neg (by omega), if_neg h]
theorem pv_next (s : ByteArray) (k : Nat) : Dc.pv s (k + 1) = Dc.pv s k * 10 + (Dc.sb s k - 48) := rfl
theorem pv_len {s : ByteArray} {k : Nat} (h : Dc.alld s k = true) : L32 (Dc.pv s k) ≤ k := by
  refine fit32_le (Nat.lt_of_lt_of_le (Dc.pv_lt (Dc.alld_of h)) ?_)
  exact Nat.pow_le_pow_left (by omega) k
theorem pv_len16 {s : ByteArray} {k : Nat} (h : Dc.alld s k = true) : L16 (Dc.pv s k) ≤ k := by
  refine fit16_le (Nat.lt_of_lt_of_le (Dc.pv_lt (Dc.alld_of h)) ?_)
  exact Nat.pow_le_pow_left (by omega) k

/-- What a parser answers. -/
def ParseRes (w' : World) (e : Ending) (s : ByteArray) : Prop :=
  (Dc.err s = 0 ∧ ∃ D c, e = .returned (.tuple #[.agg #[.slice D (L32 (Dc.pv s s.size)) c], .int .i64 0]) ∧ L32 (Dc.pv s s.size) ≤ c ∧ Cells w' D (L32 (Dc.pv s s.size)) (Lm (d32 (Dc.pv s s.size)))) ∨
  (Dc.err s ≠ 0 ∧ e = .returned (.tuple #[.agg #[.slice none 0 0], .int .i64 (Dc.err s)]))
theorem err_big {s : ByteArray} (h : 620 < s.size) : Dc.err s = 3 := by unfold Dc.err; rw [if_pos h]
theorem err_head {s : ByteArray} (h : ¬ 620 < s.size) (h2 : s.size = 0 ∨ (Dc.sb s 0 = 48 ∧ 1 < s.size)) : Dc.err s = 1 := by unfold Dc.err; rw [if_neg h, if_pos h2]
theorem err_digit {s : ByteArray} (h : ¬ 620 < s.size) (h2 : ¬ (s.size = 0 ∨ (Dc.sb s 0 = 48 ∧ 1 < s.size))) (h3 : Dc.alld s s.size = false) : Dc.err s = 1 := by unfold Dc.err; rw [if_neg h, if_neg h2, if_pos h3]
theorem err_long {s : ByteArray} (h : ¬ 620 < s.size) (h2 : ¬ (s.size = 0 ∨ (Dc.sb s 0 = 48 ∧ 1 < s.size))) (h3 : Dc.alld s s.size = true) (h4 : 64 < L32 (Dc.pv s s.size)) : Dc.err s = 9 := by
  unfold Dc.err; rw [if_neg h, if_neg h2, if_neg (by rw [h3]; exact Bool.noConfusion), if_pos h4]
theorem err_none {s : ByteArray} (h : ¬ 620 < s.size) (h2 : ¬ (s.size = 0 ∨ (Dc.sb s 0 = 48 ∧ 1 < s.size))) (h3 : Dc.alld s s.size = true) (h4 : ¬ 64 < L32 (Dc.pv s s.size)) : Dc.err s = 0 := by
  unfold Dc.err; rw [if_neg h, if_neg h2, if_neg (by rw [h3]; exact Bool.noConfusion), if_neg h4]

set_option maxHeartbeats 8000000 in
set_option maxRecDepth 100000 in
theorem nparse_a (s : ByteArray) (w : World) (hpos : 0 < s.size) (hsi : (s.size : Int) ≤ 620) (hte : s.toList.isEmpty = false) (HBIG : Hid (¬ 620 < s.size)) (HNB : Hid (¬ (s.size = 0 ∨ (Dc.sb s 0 = 48 ∧ 1 < s.size)))) (h0 : ((s[0].toNat : Int) == 48) = false) :
    Calls Try.prog 29 #[.string s] w fun e w' => ParseRes w' e s ∧ Below w.heap.size w w' := by
  obtain ⟨i0, hi, hz0, hz1, hz2⟩ := info_parts Try.infoU
  have HB0 := Lib.hid ((Below.refl w.heap.size w).alloc (Nat.le_refl _) (.cells #[.slice none 0 0] 24))
  have HK0 := Lib.hid (Blk.new w 24 #[.slice none 0 0])
  have q0 : (w.alloc (.cells #[.slice none 0 0] 24)).cell? ⟨w.heap.size, 0, none⟩ = some (.slice none 0 0) := HK0.out.cell 0
  go_enter Try.func29, Try.ntmps29
  go_wp2
  go_loop [28] (fun s28 => ∃ k : Nat, k ≤ s.size ∧ s28 = .int .i64 (k : Int) ∧ Hid (Dc.alld s k = true)) (fun s28 => s.size - (intOf s28).toNat)
  case atStart => exact ⟨0, Nat.zero_le _, rfl, rfl⟩
  case round =>
    obtain ⟨k, hk, rfl, HAL⟩ := hrel
    by_cases hks : k < s.size
    · have hsk := Dc.sb_at hks
      by_cases hd : 48 ≤ Dc.sb s k ∧ Dc.sb s k ≤ 57
      · have hd1 : (48 : Int) ≤ (s[k].toNat : Int) := by omega
        have hd2 : (s[k].toNat : Int) ≤ 57 := by omega
        have HAL2 := Lib.hid (show Dc.alld s (k + 1) = true by simp only [Dc.alld]; rw [HAL.out, Dc.isd_yes hd.1 hd.2]; rfl)
        clear hd hsk
        go_wp2
        go_round
        case rel => exact ⟨k + 1, by omega, by go_num, HAL2⟩
        case measure => simp [intOf]; omega
      · have HE := Lib.hid (err_digit HBIG.out HNB.out (Dc.alld_no hks (Dc.isd_no (by omega))))
        by_cases hd1 : Dc.sb s k < 48
        · have hd2 : (s[k].toNat : Int) < 48 := by omega
          clear hd hsk hd1
          go_wp2
          refine bodyPost_ret (v := .tuple #[.agg #[.slice none 0 0], .int .i64 1]) (by simp [results, Try.results29, go_sem]) rfl ?_
          exact ⟨.inr ⟨by rw [HE.out]; decide, by rw [HE.out]⟩, HB0.out⟩
        · have hd2 : (57 : Int) < (s[k].toNat : Int) := by omega
          have hd3 : (48 : Int) ≤ (s[k].toNat : Int) := by omega
          clear hd hsk hd1
          go_wp2
          refine bodyPost_ret (v := .tuple #[.agg #[.slice none 0 0], .int .i64 1]) (by simp [results, Try.results29, go_sem]) rfl ?_
          exact ⟨.inr ⟨by rw [HE.out]; decide, by rw [HE.out]⟩, HB0.out⟩
    · obtain rfl : k = s.size := by omega
      have hall := HAL.out
      have HD := Lib.hid (Dc.alld_of hall)
      have HPL := Lib.hid (fun k (hk : k ≤ s.size) => pv_len (s := s) (k := k) (Dc.alld_mk fun i hi => HD.out i (by omega)))
      have HALL := Lib.hid hall
      clear hall hks HAL
      go_wp2_with (at_make; refine wpList_make_own _ rfl _ _ 22 rfl (w.heap.size + 1) 40 i0 (.int .u32 0) 1 Try.underlying22 hi hz0 hz1 _ _ _ 66 rfl rfl ?d1 ?d2 ?d3 ?d4 ?_)
      try case d1 => rfl
      try case d2 => rw [hz2]; omega
      try case d3 => unfold maxLen; omega
      try case d4 => simp
      intro w1 hown hgr
      have HO1 := Lib.hid hown
      have HB1 := Lib.hid (HB0.out.grown hgr (by simp) fun j hj => by cases hj)
      have HK1 := Lib.hid (HK0.out.grown hgr (by intro e; cases e))
      clear hown hgr q0
      go_wp2
      go_loopw [5, 46] (fun s5 s46 wr => ∃ (k g cap : Nat), k ≤ s.size ∧ s46 = .int .i64 (k : Int) ∧ s5 = .slice (some ⟨g, 0, none⟩) (L32 (Dc.pv s k)) cap ∧ Hid (wr.ownsRow (w.heap.size + 1) 40 1 (.slice (some ⟨g, 0, none⟩) (L32 (Dc.pv s k)) cap) (L32 (Dc.pv s k)) (row (L32 (Dc.pv s k) * 1) (Lm (d32 (Dc.pv s k))))) ∧ Hid (Below w.heap.size w wr) ∧ Hid (Blk wr w.heap.size 24 #[.slice none 0 0])) (fun _ s46 _ => s.size - (intOf s46).toNat)
      case atStart =>
        have hl0 : L32 (Dc.pv s 0) = 0 := L32_zero.2 rfl
        exact ⟨0, _, 66, Nat.zero_le _, rfl, by rw [hl0], by rw [hl0]; exact HO1.out, HB1, HK1⟩
      case round =>
        obtain ⟨wo, rfl⟩ : ∃ wo : World, wo = wr := ⟨_, rfl⟩
        obtain ⟨k, g, cap, hk, rfl, rfl, HO, HB, HK⟩ := hrel
        obtain ⟨N, hN⟩ : ∃ N, N = Dc.pv s k := ⟨_, rfl⟩
        have hnl := HPL.out k hk
        rw [← hN] at HO hnl ⊢
        obtain ⟨n, hn⟩ : ∃ n, n = L32 N := ⟨_, rfl⟩
        rw [← hn] at HO hnl ⊢
        have HN := Lib.hid hN
        have HNL := Lib.hid hn
        clear hN hn
        by_cases hks : k < s.size
        · have hsk := Dc.sb_at hks
          obtain ⟨hd1, hd2⟩ := HD.out k hks
          obtain ⟨d, hd⟩ : ∃ d, d = Dc.sb s k - 48 := ⟨_, rfl⟩
          have hd10 : d < 10 := by omega
          have hds : (s[k].toNat : Int) - 48 = (d : Int) := by rw [hsk]; omega
          have hsl : (48 : Int) ≤ (s[k].toNat : Int) := by rw [hsk]; omega
          have hsh : (s[k].toNat : Int) ≤ 57 := by rw [hsk]; omega
          have HM := Lib.hid (show Dc.pv s (k + 1) = N * 10 + d by rw [pv_next, HN.out, hd])
          have HO0 := Lib.hid (own_congr HO.out (F' := Lm (tnew N d 0)) fun j _ => by unfold Lm tnew; rw [if_neg (by omega)])
          clear hd hd1 hd2 hsk HO
          go_wp2
          go_loopw [7, 56] (fun s7 s56 wr => ∃ j : Nat, j ≤ n ∧ s56 = .int .i64 (j : Int) ∧ s7 = .int .u64 (tcar N d j : Int) ∧ Hid (wr.ownsRow (w.heap.size + 1) 40 1 (.slice (some ⟨g, 0, none⟩) n cap) n (row (n * 1) (Lm (tnew N d j)))) ∧ Hid (Below w.heap.size w wr) ∧ Hid (Blk wr w.heap.size 24 #[.slice none 0 0])) (fun _ s56 _ => n - (intOf s56).toNat)
          case atStart => exact ⟨0, Nat.zero_le _, rfl, by rw [tcar_zero], HO0, HB, HK⟩
          case round =>
            obtain ⟨j, hj, rfl, rfl, HOj, HBj, HKj⟩ := hrel
            have htl := tcar_lt N hd10 j
            by_cases hjn : j < n
            · obtain ⟨hc, hf⟩ := own_at HOj.out hjn
              have hc2 : wr.cell? ⟨g, j, none⟩ = some (.int .u32 (d32 N j : Int)) := by rw [hc]; unfold Lm tnew; rw [if_neg (by omega)]
              have hdl := d32_lt N j
              have hdm := d32_lt (N * 10 + d) j
              have htl2 := tcar_lt N hd10 (j + 1)
              have hst := tcar_step N d j
              obtain ⟨T, hT⟩ : ∃ T, T = tcar N d j + d32 N j * 10 := ⟨_, rfl⟩
              have hsum : (tcar N d j : Int) + (d32 N j : Int) * 10 = (T : Int) := by rw [hT]; omega
              have hTq : (T : Int) / 4294967296 = (tcar N d (j + 1) : Int) := by omega
              have hTr : (T : Int) % 4294967296 = (d32 (N * 10 + d) j : Int) := by omega
              have hTb : (T : Int) ≤ 42949672969 := by omega
              have hU := Lib.hid fun t => tnew_next N d j t
              have hj0 : (0 : Int) ≤ (j : Int) := by omega
              have hji : (j : Int) < (n : Int) := by omega
              clear hT hst hc
              go_wp2
              go_roundw
              case rel =>
                have hp := own_put (k := j) (F' := Lm (tnew N d (j + 1))) (u := .int .u32 (d32 (N * 10 + d) j : Int)) HOj.out fun t _ => hU.out t
                have hgb : w.heap.size + 1 ≤ g := (HOj.out.lt g rfl).1
                exact ⟨j + 1, by omega, by go_num, rfl, hp.1, HBj.out.trans ((only_below hp.2 (by have := (HOj.out.lt g rfl).2; omega)).mono (by omega)), HKj.out.grown hp.2 (by intro e; injection e; omega)⟩
              case measure => simp [intOf]; omega
            · obtain rfl : j = n := by omega
              by_cases hc0 : tcar N d j = 0
              · have HS := Lib.hid (ten_same (d := d) HNL.out hc0)
                have HOS := Lib.hid (own_congr HOj.out (F' := Lm (d32 (N * 10 + d))) fun t ht => by unfold Lm tnew; rw [if_pos ht])
                have hci : ((tcar N d j : Nat) : Int) = 0 := by omega
                clear hc0 htl
                go_wp2
                go_roundw
                case rel => exact ⟨k + 1, g, cap, by omega, by go_num, by rw [HM.out, HS.out], by rw [HM.out, HS.out]; exact HOS, HBj, HKj⟩
                case measure => simp [intOf]; omega
              · obtain ⟨hm1, hm2⟩ := ten_more (d := d) HNL.out hd10 (by omega)
                have HM1 := Lib.hid hm1
                have HM2 := Lib.hid hm2
                have HOS := Lib.hid (own_congr HOj.out (F' := Lm (d32 (N * 10 + d))) fun t ht => by unfold Lm tnew; rw [if_pos ht])
                have hci : 0 < ((tcar N d j : Nat) : Int) := by omega
                have hcs := HBj.out.size
                have hbl := HKj.out.lt
                clear hm1 hm2 hc0
                go_wp2_with (at_builtin; refine wpList_append_own _ rfl _ _ 22 rfl (w.heap.size + 1) 40 i0 (.int .u32 0) 1 4 Try.underlying22 hi hz0 hz1 hz2 rfl (by decide) _ _ _ rfl (HOS.out.alloc _) ⟨wr.heap.size, 0, none⟩ 1 1 [.int .u32 (tcar N d j : Int)] rfl rfl ?c1 ?c2 ?c3 ?c4 ?c5 ?_)
                try case c1 => exact fun j u hu => new_cell rfl (by simpa using hu)
                try case c2 => first | rfl | (intro u hu; simp at hu; subst hu; rfl)
                case c3 => unfold maxLen; omega
                case c4 => omega
                try case c5 => first | omega | (simp; omega)
                intro v' w6 hown' hgrow _
                have hlo : ∀ j', (Value.slice (some ⟨g, 0, none⟩) j cap).ownBlock = some j' → w.heap.size + 1 ≤ j' := fun j' hj' => (HOj.out.lt j' hj').1
                have HB6 := Lib.hid ((HBj.out.alloc HBj.out.size (.cells #[.int .u32 (tcar N d j : Int)] 40)).grown hgrow (by simp; omega) fun j' hj' => by have := hlo j' hj'; omega)
                have HK6 := Lib.hid ((HKj.out.alloc (.cells #[.int .u32 (tcar N d j : Int)] 40)).grown hgrow (by intro e; have := hlo _ e.symm; omega))
                have HO6 : Hid (w6.ownsRow (w.heap.size + 1) 40 1 v' (j + 1) (row ((j + 1) * 1) (Lm (d32 (N * 10 + d))))) := by
                  rw [Nat.mul_one, row_one, Lm_at, HM2.out]
                  first | exact hown' | (rw [Nat.mul_one] at hown'; exact hown')
                clear hown' hgrow HOS HOj HBj HKj
                obtain ⟨g2, cap2, rfl⟩ := own_some HO6.out (Nat.succ_pos j)
                go_wp2
                go_roundw
                case rel => exact ⟨k + 1, g2, cap2, by omega, by go_num, by rw [HM.out, HM1.out], by rw [HM.out, HM1.out]; exact HO6, HB6, HK6⟩
                case measure => simp [intOf]; omega
        · obtain rfl : k = s.size := by omega
          have HCN := Lib.hid (Cells.of_own HO.out)
          have HFN := Lib.hid (Fresh.of_own HO.out)
          obtain ⟨_, _, e9, hncap⟩ := own_slice HO.out
          have hncap2 : n ≤ cap := by injection e9 with _ _ e9; omega
          clear hks e9 hncap
          go_wp2_with fail
          refine (bounded_any (B := w.heap.size + 1) (m := n) (N := N) (by omega) hncap2 (by rw [HNL.out]; exact fit32_len N) (by have := HCN.out; rwa [Nat.mul_one] at this) HFN.out).mono ?_
          rintro e w5 ⟨hres, hb5⟩
          have HK5 := Lib.hid (HK.out.keep hb5)
          have HB5 := Lib.hid (Below.on HB.out hb5)
          have q0 : w5.cell? ⟨w.heap.size, 0, none⟩ = some (.slice none 0 0) := HK5.out.cell 0
          have f0 : w5.frozen? ⟨w.heap.size, 0, none⟩ = false := HK5.out.frozen 0
          have hlt5 := HK5.out.lt
          rcases hres with ⟨h64, D5, c5, rfl, hl5, hc5, hf5⟩ | ⟨h64, rfl⟩
          · have HE := Lib.hid (err_none HBIG.out HNB.out HALL.out (by rw [← HN.out]; omega))
            have HC5 := Lib.hid hc5
            have HF5 := Lib.hid hf5
            obtain ⟨l, hl⟩ : ∃ l, l = L32 N := ⟨_, rfl⟩
            rw [← hl] at hl5 HC5 ⊢
            have HLL := Lib.hid hl
            clear hb5 hc5 hf5 hl
            unfold natv
            go_wp2
            refine bodyPost_ret (v := .tuple #[.agg #[.slice D5 l c5], .int .i64 0]) (by simp [results, Try.results29, go_sem, q0]) rfl ?_
            refine ⟨.inl ⟨HE.out, D5, c5, ?_, ?_, ?_⟩, HB5.out.setCell (p := ⟨w.heap.size, 0, none⟩) (Nat.le_refl _) _⟩
            · rw [← HN.out, ← HLL.out]
            · rw [← HN.out, ← HLL.out]; exact hl5
            · rw [← HN.out, ← HLL.out]; exact HC5.out.set_ HF5.out (Nat.lt_succ_self _) _ _
          · have HE := Lib.hid (err_long HBIG.out HNB.out HALL.out (by rw [← HN.out]; exact h64))
            clear hb5
            unfold natv
            go_wp2
            refine bodyPost_ret (v := .tuple #[.agg #[.slice none 0 0], .int .i64 9]) (by simp [results, Try.results29, go_sem, q0]) rfl ?_
            exact ⟨.inr ⟨by rw [HE.out]; decide, by rw [HE.out]⟩, HB5.out.setCell (p := ⟨w.heap.size, 0, none⟩) (Nat.le_refl _) _⟩
set_option maxHeartbeats 8000000 in
set_option maxRecDepth 100000 in
theorem nparse_b (s : ByteArray) (w : World) (hpos : 0 < s.size) (hsi : (s.size : Int) ≤ 620) (hte : s.toList.isEmpty = false) (HBIG : Hid (¬ 620 < s.size)) (HNB : Hid (¬ (s.size = 0 ∨ (Dc.sb s 0 = 48 ∧ 1 < s.size)))) (h0 : ((s[0].toNat : Int) == 48) = true) (h1i : (s.size : Int) ≤ 1) :
    Calls Try.prog 29 #[.string s] w fun e w' => ParseRes w' e s ∧ Below w.heap.size w w' := by
  obtain ⟨i0, hi, hz0, hz1, hz2⟩ := info_parts Try.infoU
  have HB0 := Lib.hid ((Below.refl w.heap.size w).alloc (Nat.le_refl _) (.cells #[.slice none 0 0] 24))
  have HK0 := Lib.hid (Blk.new w 24 #[.slice none 0 0])
  have q0 : (w.alloc (.cells #[.slice none 0 0] 24)).cell? ⟨w.heap.size, 0, none⟩ = some (.slice none 0 0) := HK0.out.cell 0
  go_enter Try.func29, Try.ntmps29
  go_wp2
  go_loop [28] (fun s28 => ∃ k : Nat, k ≤ s.size ∧ s28 = .int .i64 (k : Int) ∧ Hid (Dc.alld s k = true)) (fun s28 => s.size - (intOf s28).toNat)
  case atStart => exact ⟨0, Nat.zero_le _, rfl, rfl⟩
  case round =>
    obtain ⟨k, hk, rfl, HAL⟩ := hrel
    by_cases hks : k < s.size
    · have hsk := Dc.sb_at hks
      by_cases hd : 48 ≤ Dc.sb s k ∧ Dc.sb s k ≤ 57
      · have hd1 : (48 : Int) ≤ (s[k].toNat : Int) := by omega
        have hd2 : (s[k].toNat : Int) ≤ 57 := by omega
        have HAL2 := Lib.hid (show Dc.alld s (k + 1) = true by simp only [Dc.alld]; rw [HAL.out, Dc.isd_yes hd.1 hd.2]; rfl)
        clear hd hsk
        go_wp2
        go_round
        case rel => exact ⟨k + 1, by omega, by go_num, HAL2⟩
        case measure => simp [intOf]; omega
      · have HE := Lib.hid (err_digit HBIG.out HNB.out (Dc.alld_no hks (Dc.isd_no (by omega))))
        by_cases hd1 : Dc.sb s k < 48
        · have hd2 : (s[k].toNat : Int) < 48 := by omega
          clear hd hsk hd1
          go_wp2
          refine bodyPost_ret (v := .tuple #[.agg #[.slice none 0 0], .int .i64 1]) (by simp [results, Try.results29, go_sem]) rfl ?_
          exact ⟨.inr ⟨by rw [HE.out]; decide, by rw [HE.out]⟩, HB0.out⟩
        · have hd2 : (57 : Int) < (s[k].toNat : Int) := by omega
          have hd3 : (48 : Int) ≤ (s[k].toNat : Int) := by omega
          clear hd hsk hd1
          go_wp2
          refine bodyPost_ret (v := .tuple #[.agg #[.slice none 0 0], .int .i64 1]) (by simp [results, Try.results29, go_sem]) rfl ?_
          exact ⟨.inr ⟨by rw [HE.out]; decide, by rw [HE.out]⟩, HB0.out⟩
    · obtain rfl : k = s.size := by omega
      have hall := HAL.out
      have HD := Lib.hid (Dc.alld_of hall)
      have HPL := Lib.hid (fun k (hk : k ≤ s.size) => pv_len (s := s) (k := k) (Dc.alld_mk fun i hi => HD.out i (by omega)))
      have HALL := Lib.hid hall
      clear hall hks HAL
      go_wp2_with (at_make; refine wpList_make_own _ rfl _ _ 22 rfl (w.heap.size + 1) 40 i0 (.int .u32 0) 1 Try.underlying22 hi hz0 hz1 _ _ _ 66 rfl rfl ?d1 ?d2 ?d3 ?d4 ?_)
      try case d1 => rfl
      try case d2 => rw [hz2]; omega
      try case d3 => unfold maxLen; omega
      try case d4 => simp
      intro w1 hown hgr
      have HO1 := Lib.hid hown
      have HB1 := Lib.hid (HB0.out.grown hgr (by simp) fun j hj => by cases hj)
      have HK1 := Lib.hid (HK0.out.grown hgr (by intro e; cases e))
      clear hown hgr q0
      go_wp2
      go_loopw [5, 46] (fun s5 s46 wr => ∃ (k g cap : Nat), k ≤ s.size ∧ s46 = .int .i64 (k : Int) ∧ s5 = .slice (some ⟨g, 0, none⟩) (L32 (Dc.pv s k)) cap ∧ Hid (wr.ownsRow (w.heap.size + 1) 40 1 (.slice (some ⟨g, 0, none⟩) (L32 (Dc.pv s k)) cap) (L32 (Dc.pv s k)) (row (L32 (Dc.pv s k) * 1) (Lm (d32 (Dc.pv s k))))) ∧ Hid (Below w.heap.size w wr) ∧ Hid (Blk wr w.heap.size 24 #[.slice none 0 0])) (fun _ s46 _ => s.size - (intOf s46).toNat)
      case atStart =>
        have hl0 : L32 (Dc.pv s 0) = 0 := L32_zero.2 rfl
        exact ⟨0, _, 66, Nat.zero_le _, rfl, by rw [hl0], by rw [hl0]; exact HO1.out, HB1, HK1⟩
      case round =>
        obtain ⟨wo, rfl⟩ : ∃ wo : World, wo = wr := ⟨_, rfl⟩
        obtain ⟨k, g, cap, hk, rfl, rfl, HO, HB, HK⟩ := hrel
        obtain ⟨N, hN⟩ : ∃ N, N = Dc.pv s k := ⟨_, rfl⟩
        have hnl := HPL.out k hk
        rw [← hN] at HO hnl ⊢
        obtain ⟨n, hn⟩ : ∃ n, n = L32 N := ⟨_, rfl⟩
        rw [← hn] at HO hnl ⊢
        have HN := Lib.hid hN
        have HNL := Lib.hid hn
        clear hN hn
        by_cases hks : k < s.size
        · have hsk := Dc.sb_at hks
          obtain ⟨hd1, hd2⟩ := HD.out k hks
          obtain ⟨d, hd⟩ : ∃ d, d = Dc.sb s k - 48 := ⟨_, rfl⟩
          have hd10 : d < 10 := by omega
          have hds : (s[k].toNat : Int) - 48 = (d : Int) := by rw [hsk]; omega
          have hsl : (48 : Int) ≤ (s[k].toNat : Int) := by rw [hsk]; omega
          have hsh : (s[k].toNat : Int) ≤ 57 := by rw [hsk]; omega
          have HM := Lib.hid (show Dc.pv s (k + 1) = N * 10 + d by rw [pv_next, HN.out, hd])
          have HO0 := Lib.hid (own_congr HO.out (F' := Lm (tnew N d 0)) fun j _ => by unfold Lm tnew; rw [if_neg (by omega)])
          clear hd hd1 hd2 hsk HO
          go_wp2
          go_loopw [7, 56] (fun s7 s56 wr => ∃ j : Nat, j ≤ n ∧ s56 = .int .i64 (j : Int) ∧ s7 = .int .u64 (tcar N d j : Int) ∧ Hid (wr.ownsRow (w.heap.size + 1) 40 1 (.slice (some ⟨g, 0, none⟩) n cap) n (row (n * 1) (Lm (tnew N d j)))) ∧ Hid (Below w.heap.size w wr) ∧ Hid (Blk wr w.heap.size 24 #[.slice none 0 0])) (fun _ s56 _ => n - (intOf s56).toNat)
          case atStart => exact ⟨0, Nat.zero_le _, rfl, by rw [tcar_zero], HO0, HB, HK⟩
          case round =>
            obtain ⟨j, hj, rfl, rfl, HOj, HBj, HKj⟩ := hrel
            have htl := tcar_lt N hd10 j
            by_cases hjn : j < n
            · exfalso; omega
            · obtain rfl : j = n := by omega
              by_cases hc0 : tcar N d j = 0
              · have HS := Lib.hid (ten_same (d := d) HNL.out hc0)
                have HOS := Lib.hid (own_congr HOj.out (F' := Lm (d32 (N * 10 + d))) fun t ht => by unfold Lm tnew; rw [if_pos ht])
                have hci : ((tcar N d j : Nat) : Int) = 0 := by omega
                clear hc0 htl
                go_wp2
                go_roundw
                case rel => exact ⟨k + 1, g, cap, by omega, by go_num, by rw [HM.out, HS.out], by rw [HM.out, HS.out]; exact HOS, HBj, HKj⟩
                case measure => simp [intOf]; omega
              · obtain ⟨hm1, hm2⟩ := ten_more (d := d) HNL.out hd10 (by omega)
                have HM1 := Lib.hid hm1
                have HM2 := Lib.hid hm2
                have HOS := Lib.hid (own_congr HOj.out (F' := Lm (d32 (N * 10 + d))) fun t ht => by unfold Lm tnew; rw [if_pos ht])
                have hci : 0 < ((tcar N d j : Nat) : Int) := by omega
                have hcs := HBj.out.size
                have hbl := HKj.out.lt
                clear hm1 hm2 hc0
                go_wp2_with (at_builtin; refine wpList_append_own _ rfl _ _ 22 rfl (w.heap.size + 1) 40 i0 (.int .u32 0) 1 4 Try.underlying22 hi hz0 hz1 hz2 rfl (by decide) _ _ _ rfl (HOS.out.alloc _) ⟨wr.heap.size, 0, none⟩ 1 1 [.int .u32 (tcar N d j : Int)] rfl rfl ?c1 ?c2 ?c3 ?c4 ?c5 ?_)
                try case c1 => exact fun j u hu => new_cell rfl (by simpa using hu)
                try case c2 => first | rfl | (intro u hu; simp at hu; subst hu; rfl)
                case c3 => unfold maxLen; omega
                case c4 => omega
                try case c5 => first | omega | (simp; omega)
                intro v' w6 hown' hgrow _
                have hlo : ∀ j', (Value.slice (some ⟨g, 0, none⟩) j cap).ownBlock = some j' → w.heap.size + 1 ≤ j' := fun j' hj' => (HOj.out.lt j' hj').1
                have HB6 := Lib.hid ((HBj.out.alloc HBj.out.size (.cells #[.int .u32 (tcar N d j : Int)] 40)).grown hgrow (by simp; omega) fun j' hj' => by have := hlo j' hj'; omega)
                have HK6 := Lib.hid ((HKj.out.alloc (.cells #[.int .u32 (tcar N d j : Int)] 40)).grown hgrow (by intro e; have := hlo _ e.symm; omega))
                have HO6 : Hid (w6.ownsRow (w.heap.size + 1) 40 1 v' (j + 1) (row ((j + 1) * 1) (Lm (d32 (N * 10 + d))))) := by
                  rw [Nat.mul_one, row_one, Lm_at, HM2.out]
                  first | exact hown' | (rw [Nat.mul_one] at hown'; exact hown')
                clear hown' hgrow HOS HOj HBj HKj
                obtain ⟨g2, cap2, rfl⟩ := own_some HO6.out (Nat.succ_pos j)
                go_wp2
                go_roundw
                case rel => exact ⟨k + 1, g2, cap2, by omega, by go_num, by rw [HM.out, HM1.out], by rw [HM.out, HM1.out]; exact HO6, HB6, HK6⟩
                case measure => simp [intOf]; omega
        · obtain rfl : k = s.size := by omega
          have HCN := Lib.hid (Cells.of_own HO.out)
          have HFN := Lib.hid (Fresh.of_own HO.out)
          obtain ⟨_, _, e9, hncap⟩ := own_slice HO.out
          have hncap2 : n ≤ cap := by injection e9 with _ _ e9; omega
          clear hks e9 hncap
          go_wp2_with fail
          refine (bounded_any (B := w.heap.size + 1) (m := n) (N := N) (by omega) hncap2 (by rw [HNL.out]; exact fit32_len N) (by have := HCN.out; rwa [Nat.mul_one] at this) HFN.out).mono ?_
          rintro e w5 ⟨hres, hb5⟩
          have HK5 := Lib.hid (HK.out.keep hb5)
          have HB5 := Lib.hid (Below.on HB.out hb5)
          have q0 : w5.cell? ⟨w.heap.size, 0, none⟩ = some (.slice none 0 0) := HK5.out.cell 0
          have f0 : w5.frozen? ⟨w.heap.size, 0, none⟩ = false := HK5.out.frozen 0
          have hlt5 := HK5.out.lt
          rcases hres with ⟨h64, D5, c5, rfl, hl5, hc5, hf5⟩ | ⟨h64, rfl⟩
          · have HE := Lib.hid (err_none HBIG.out HNB.out HALL.out (by rw [← HN.out]; omega))
            have HC5 := Lib.hid hc5
            have HF5 := Lib.hid hf5
            obtain ⟨l, hl⟩ : ∃ l, l = L32 N := ⟨_, rfl⟩
            rw [← hl] at hl5 HC5 ⊢
            have HLL := Lib.hid hl
            clear hb5 hc5 hf5 hl
            unfold natv
            go_wp2
            refine bodyPost_ret (v := .tuple #[.agg #[.slice D5 l c5], .int .i64 0]) (by simp [results, Try.results29, go_sem, q0]) rfl ?_
            refine ⟨.inl ⟨HE.out, D5, c5, ?_, ?_, ?_⟩, HB5.out.setCell (p := ⟨w.heap.size, 0, none⟩) (Nat.le_refl _) _⟩
            · rw [← HN.out, ← HLL.out]
            · rw [← HN.out, ← HLL.out]; exact hl5
            · rw [← HN.out, ← HLL.out]; exact HC5.out.set_ HF5.out (Nat.lt_succ_self _) _ _
          · have HE := Lib.hid (err_long HBIG.out HNB.out HALL.out (by rw [← HN.out]; exact h64))
            clear hb5
            unfold natv
            go_wp2
            refine bodyPost_ret (v := .tuple #[.agg #[.slice none 0 0], .int .i64 9]) (by simp [results, Try.results29, go_sem, q0]) rfl ?_
            exact ⟨.inr ⟨by rw [HE.out]; decide, by rw [HE.out]⟩, HB5.out.setCell (p := ⟨w.heap.size, 0, none⟩) (Nat.le_refl _) _⟩
set_option maxHeartbeats 8000000 in
set_option maxRecDepth 100000 in
theorem nparse_any (s : ByteArray) (w : World) (hs : s.size ≤ maxLen) :
    Calls Try.prog 29 #[.string s] w fun e w' => ParseRes w' e s ∧ Below w.heap.size w w' := by
  obtain ⟨i0, hi, hz0, hz1, hz2⟩ := info_parts Try.infoU
  unfold maxLen at hs
  have HB0 := Lib.hid ((Below.refl w.heap.size w).alloc (Nat.le_refl _) (.cells #[.slice none 0 0] 24))
  have HK0 := Lib.hid (Blk.new w 24 #[.slice none 0 0])
  by_cases hbig : 620 < s.size
  · have HE := Lib.hid (err_big hbig)
    have q0 : (w.alloc (.cells #[.slice none 0 0] 24)).cell? ⟨w.heap.size, 0, none⟩ = some (.slice none 0 0) := HK0.out.cell 0
    go_enter Try.func29, Try.ntmps29
    go_wp2
    refine bodyPost_ret (v := .tuple #[.agg #[.slice none 0 0], .int .i64 3]) (by simp [results, Try.results29, go_sem]) rfl ?_
    exact ⟨.inr ⟨by rw [HE.out]; decide, by rw [HE.out]⟩, HB0.out⟩
  have hsi : (s.size : Int) ≤ 620 := by omega
  by_cases hz : s.size = 0
  · have HE := Lib.hid (err_head hbig (.inl hz))
    have hte := bytes_eq (s := s) (by omega)
    have q0 : (w.alloc (.cells #[.slice none 0 0] 24)).cell? ⟨w.heap.size, 0, none⟩ = some (.slice none 0 0) := HK0.out.cell 0
    clear hz
    go_enter Try.func29, Try.ntmps29
    go_wp2
    refine bodyPost_ret (v := .tuple #[.agg #[.slice none 0 0], .int .i64 1]) (by simp [results, Try.results29, go_sem]) rfl ?_
    exact ⟨.inr ⟨by rw [HE.out]; decide, by rw [HE.out]⟩, HB0.out⟩
  have hte := bytes_ne (s := s) (by omega)
  have hpos : 0 < s.size := by omega
  by_cases hl : Dc.sb s 0 = 48 ∧ 1 < s.size
  · have HE := Lib.hid (err_head hbig (.inr hl))
    have h0 : ((s[0].toNat : Int) == 48) = true := by rw [Dc.sb_at hpos, hl.1]; rfl
    have h1i : (1 : Int) < (s.size : Int) := by omega
    have q0 : (w.alloc (.cells #[.slice none 0 0] 24)).cell? ⟨w.heap.size, 0, none⟩ = some (.slice none 0 0) := HK0.out.cell 0
    clear hl
    go_enter Try.func29, Try.ntmps29
    go_wp2
    refine bodyPost_ret (v := .tuple #[.agg #[.slice none 0 0], .int .i64 1]) (by simp [results, Try.results29, go_sem]) rfl ?_
    exact ⟨.inr ⟨by rw [HE.out]; decide, by rw [HE.out]⟩, HB0.out⟩
  have hnb : ¬ (s.size = 0 ∨ (Dc.sb s 0 = 48 ∧ 1 < s.size)) := by omega
  have HNB := Lib.hid hnb
  have HBIG := Lib.hid hbig
  have hsb := Dc.sb_at hpos
  have hhead : Hid ((((s[0].toNat : Int) == 48) = false) ∨ ((((s[0].toNat : Int) == 48) = true) ∧ (s.size : Int) ≤ 1)) := by
    by_cases h0 : Dc.sb s 0 = 48
    · exact .inr ⟨by rw [hsb, h0]; rfl, by omega⟩
    · exact .inl (by rw [hsb]; simp; omega)
  clear hnb hbig hl hsb hz
  rcases hhead.out with h0 | ⟨h0, h1i⟩
  · exact nparse_a s w hpos hsi hte HBIG HNB h0
  · exact nparse_b s w hpos hsi hte HBIG HNB h0 h1i
end Go.Proofs.Ythjbkadhgcjnaaa
