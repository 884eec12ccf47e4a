/- The walk of frac.Decimal. -/
import Derived.Test.YteclghokkdkolaaFrRepeat
import Derived.Test.YteclghokkdkolaaNatFormat
import Derived.Laws.Concat
set_option linter.unusedVariables false
namespace Go.Proofs.Yteclghokkdkolaa
open Go.RowKit
namespace Fr
/-- The digits, with zeros ahead where they are too few. -/
def pad (q P : Nat) : ByteArray := if (Dc.text q).size ≤ P then zeros (P + 1 - (Dc.text q).size) ++ Dc.text q else Dc.text q
/-- A number of 10^P-th parts in decimal. -/
def dec (q P : Nat) : ByteArray := if P = 0 then Dc.text q else (pad q P).extract 0 ((pad q P).size - P) ++ ⟨#[46]⟩ ++ (pad q P).extract ((pad q P).size - P) (pad q P).size
theorem pow_bound (m : Nat) : 4294967296 ^ m ≤ 10 ^ (10 * m) := by
  rw [Nat.pow_mul]
  exact Nat.pow_le_pow_left (by omega) m
theorem text_le {q : Nat} (h : L32 q ≤ 64) : (Dc.text q).size ≤ 700 := by
  rw [Dc.text_size]
  split
  · omega
  · have : Dc.len q ≤ 10 * L32 q := Nt.len_le (by omega) (Nat.lt_of_lt_of_le (fit32_len q) (pow_bound (L32 q)))
    omega
set_option maxHeartbeats 4000000 in
set_option maxRecDepth 100000 in
theorem dec_ok {D0 D1 : Option Addr} {n0 n1 c0 c1 xn xd P : Nat} {w : World} (hn0 : n0 ≤ 64) (hn1 : n1 ≤ 64) (h0 : n0 = L32 xn) (h1 : n1 = L32 xd) (hx0 : Cells w D0 n0 (Lm (d32 xn))) (hx1 : Cells w D1 n1 (Lm (d32 xd))) (hf : fok xn xd = true) (hP : P ≤ 18) :
    Calls Try.prog 32 #[fv D0 n0 c0 D1 n1 c1, .int .i64 (P : Int)] w fun e w' => ((L32 (xn * 10 ^ P) ≤ 64 ∧ e = .returned (.tuple #[.string (dec (xn * 10 ^ P / xd) P), .int .i64 0])) ∨ (64 < L32 (xn * 10 ^ P) ∧ e = .returned (.tuple #[.string ⟨#[]⟩, .int .i64 9]))) ∧ Below w.heap.size w w' := by
  have HXD := Lib.hid (fok_pos hf)
  have H0 := Lib.hid h0
  have H1 := Lib.hid h1
  have HK := fun (w' : World) (h : Below w.heap.size w w') => valid_any (c := c0) (c' := c1) hn0 hn1 H0.out H1.out (hx0.below h) (hx1.below h)
  rw [hf] at HK
  have BS0 := Lib.hid (box1 w (.slice D0 n0 c0) (.slice D1 n1 c1))
  obtain ⟨N, hN⟩ : ∃ N, N = xn * 10 ^ P := ⟨_, rfl⟩
  rw [← hN]
  have HN := Lib.hid hN
  clear hf h0 h1 hN
  unfold fv at HK ⊢
  have HKH := Lib.hid HK
  clear HK
  go_enter Try.func32, Try.ntmps32
  go_wp2_with fail
  refine (HKH.out _ BS0.out.below).mono ?_
  rintro e w1 ⟨rfl, hb1⟩
  have BS1 := Lib.hid (BS0.out.on hb1)
  clear hb1 BS0
  go_wp2
  go_loopw [6, 25] (fun v i wr => ∃ k V : Nat, k ≤ P ∧ i = .int .i64 (k : Int) ∧ v = .int .u64 (V : Int) ∧ Hid (V = 10 ^ k) ∧ wr = w1) (fun _ i _ => 20 - (intOf i).toNat)
  case atStart => exact ⟨0, 1, Nat.zero_le _, rfl, rfl, rfl, rfl⟩
  case round =>
    obtain ⟨k, V, hk, rfl, rfl, HV, hwr⟩ := hrel
    obtain rfl := hwr.symm
    by_cases hkP : k < P
    · have hV : V ≤ 10 ^ 17 := by rw [HV.out]; exact Nat.pow_le_pow_right (by omega) (by omega)
      have hw : IntKind.u64.wrap ((V : Int) * 10) = (V : Int) * 10 := IntWalk.u64_in _ (by omega)
      have HV2 := Lib.hid (show V * 10 = 10 ^ (k + 1) by rw [HV.out, Nat.pow_succ])
      clear hV
      go_wp2
      go_roundw
      case rel => exact ⟨k + 1, V * 10, by omega, by go_num, by go_num, HV2, by first | trivial | rfl⟩
      case measure => simp [intOf] <;> omega
    · obtain rfl : k = P := by omega
      have hV18 : V ≤ 10 ^ 18 := by rw [HV.out]; exact Nat.pow_le_pow_right (by omega) (by omega)
      obtain ⟨l1, hl1⟩ : ∃ l, l = L32 V := ⟨_, rfl⟩
      have HL1 := Lib.hid hl1
      have hl64 : l1 ≤ 64 := by rw [hl1]; exact Nat.le_trans (fit32_le (N := V) (n := 2) (Nat.lt_of_le_of_lt hV18 (by decide))) (by omega)
      have HOF : Hid (∀ w', Below w1.heap.size w1 w' → Calls Try.prog 42 #[.int .u64 (V : Int)] w' fun e w'' => ∃ D1 c1, e = .returned (.agg #[.slice D1 l1 c1]) ∧ Cells w'' D1 l1 (Lm (d32 V)) ∧ Below w'.heap.size w' w'' ∧ Below w1.heap.size w1 w'') := Lib.hid fun w' hw => by
        refine (of_any V (Nat.lt_of_le_of_lt hV18 (by decide)) w').mono ?_
        rintro e w'' ⟨D1, c1, rfl, _, h2, h3⟩
        rw [← HL1.out] at h2 ⊢
        exact ⟨D1, c1, rfl, h2, h3, Below.on hw h3⟩
      have HNV : Hid (N = xn * V) := by rw [HN.out, HV.out]; exact Lib.hid rfl
      clear hl1 hV18
      obtain ⟨_, la, ka⟩ := BS1.out.get (.head _)
      have HALL : Hid (∀ w', Below w1.heap.size w1 w' → w'.cell? ⟨w.heap.size, 0, none⟩ = some (.slice D0 n0 c0) ∧ Below w1.heap.size w1 w') := Lib.hid fun w' hw => ⟨((BS1.out.on hw).get (.head _)).2.2.cell 0, hw⟩
      clear ka
      have A0 : Below w1.heap.size w1 w1.drew := (Below.refl _ _).drew
      go_upto_region 8 with (fail)
      go_cut [7, 8] (fun s7 s8 wx => ∃ (b : Nat) (T : Value) (y : Nat), s7 = .pointer (some ⟨b, 0, none⟩) ∧ s8 = .int .i64 (y : Int) ∧ Hid (Blk wx b TN #[T]) ∧ Hid (Below w1.heap.size w1 wx) ∧
        Hid ((L32 N ≤ 64 ∧ y = 0 ∧ ∃ D c, T = .slice D (L32 N) c ∧ Cells wx D (L32 N) (Lm (d32 N))) ∨ (64 < L32 N ∧ y = 9 ∧ T = .slice none 0 0)))
      case first =>
        by_cases h64 : L32 N ≤ 64
        · have HMU : Hid (∀ w' D1 c1, Cells w' D1 l1 (Lm (d32 V)) → Below w1.heap.size w1 w' → Calls Try.prog 60 #[.agg #[.slice D0 n0 c0], .agg #[.slice D1 l1 c1]] w' fun e w'' => ∃ D c, e = .returned (.tuple #[.agg #[.slice D (L32 N) c], .int .i64 0]) ∧ Cells w'' D (L32 N) (Lm (d32 N)) ∧ Fresh w'.heap.size D ∧ Below w'.heap.size w' w'' ∧ Below w1.heap.size w1 w'') := Lib.hid fun w' D1 c1 hc hw => by
            refine (mul_any (x := xn) (y := V) hn0 hl64 H0.out HL1.out (hx0.below (BS1.out.on hw).below) hc).mono ?_
            rintro e w'' ⟨hr, hb⟩
            rw [← HNV.out] at hr
            rcases hr with ⟨_, D, c, rfl, _, h5, h6⟩ | ⟨h9, _⟩
            · exact ⟨D, c, rfl, h5, h6, hb, Below.on hw hb⟩
            · omega
          go_region_held3 (fun w' => w'.cell? ⟨w.heap.size, 0, none⟩ = some (.slice D0 n0 c0) ∧ Below w1.heap.size w1 w')
            ((refine HALL.out _ ?_; repeat' (first | exact (by assumption) | exact Below.refl _ _ | refine bl_alloc ?_ _ | refine bse ?_ (by first | omega | (simp; done) | (simp; omega)) _ _ | refine Below.drew ?_)))
            (first
              | (go_at_call 42; (with_reducible refine (HOF.out _ ?_).mono ?_); (first | assumption | exact bl_alloc (by assumption) _); rintro e5 w5 ⟨D5, c5, rfl, hc5, hb5, t5⟩; obtain ⟨bc5, bf5⟩ := bcell hb5; have s5 := t5.size)
              | (go_at_call 60; (with_reducible refine (HMU.out _ _ _ ?_ ?_).mono ?_); (first | exact hc5 | exact hc5.alloc _); (first | assumption | exact bl_alloc (by assumption) _); rintro e6 w6 ⟨D6, c6, rfl, hc6, hf6, hb6, t6⟩; obtain ⟨bc6, bf6⟩ := bcell hb6; have k56 : Below w5.heap.size w5 w6 := (by first | exact hb6 | exact bl_on (bl_alloc (Below.refl _ _) _) hb6); obtain ⟨bc56, bf56⟩ := bcell (bl_on hb5 k56); have s6 := t6.size)
              | fail)
          all_goals
            go_wp2_with fail
            go_meet
            case rel =>
              first
                | exact ⟨_, _, 0, rfl, rfl, Blk.new w6 _ _, bl_alloc t6 _, .inl ⟨h64, rfl, D6, c6, rfl, hc6.alloc _⟩⟩
                | exact ⟨_, _, 0, rfl, rfl, ((Blk.new w5 _ _).keep hb6).set_ 0 _, bse t6 s5 _ _, .inl ⟨h64, rfl, D6, c6, rfl, hc6.set_ hf6 (by simp) _ _⟩⟩
                | exact ⟨_, _, 0, rfl, rfl, (((Blk.new w1.drew _ _).keep hb5).keep hb6).set_ 0 _, bse t6 (Nat.le_refl _) _ _, .inl ⟨h64, rfl, D6, c6, rfl, hc6.set_ hf6 (by have h1 := hb5.size; simp at h1; omega) _ _⟩⟩
        · have HMU : Hid (∀ w' D1 c1, Cells w' D1 l1 (Lm (d32 V)) → Below w1.heap.size w1 w' → Calls Try.prog 60 #[.agg #[.slice D0 n0 c0], .agg #[.slice D1 l1 c1]] w' fun e w'' => e = .returned (.tuple #[.agg #[.slice none 0 0], .int .i64 9]) ∧ Below w'.heap.size w' w'' ∧ Below w1.heap.size w1 w'') := Lib.hid fun w' D1 c1 hc hw => by
            refine (mul_any (x := xn) (y := V) hn0 hl64 H0.out HL1.out (hx0.below (BS1.out.on hw).below) hc).mono ?_
            rintro e w'' ⟨hr, hb⟩
            rw [← HNV.out] at hr
            rcases hr with ⟨h9, _⟩ | ⟨_, rfl⟩
            · omega
            · exact ⟨rfl, hb, Below.on hw hb⟩
          go_region_held3 (fun w' => w'.cell? ⟨w.heap.size, 0, none⟩ = some (.slice D0 n0 c0) ∧ Below w1.heap.size w1 w')
            ((refine HALL.out _ ?_; repeat' (first | exact (by assumption) | exact Below.refl _ _ | refine bl_alloc ?_ _ | refine bse ?_ (by first | omega | (simp; done) | (simp; omega)) _ _ | refine Below.drew ?_)))
            (first
              | (go_at_call 42; (with_reducible refine (HOF.out _ ?_).mono ?_); (first | assumption | exact bl_alloc (by assumption) _); rintro e5 w5 ⟨D5, c5, rfl, hc5, hb5, t5⟩; obtain ⟨bc5, bf5⟩ := bcell hb5; have s5 := t5.size)
              | (go_at_call 60; (with_reducible refine (HMU.out _ _ _ ?_ ?_).mono ?_); (first | exact hc5 | exact hc5.alloc _); (first | assumption | exact bl_alloc (by assumption) _); rintro e6 w6 ⟨rfl, hb6, t6⟩; obtain ⟨bc6, bf6⟩ := bcell hb6; have k56 : Below w5.heap.size w5 w6 := (by first | exact hb6 | exact bl_on (bl_alloc (Below.refl _ _) _) hb6); obtain ⟨bc56, bf56⟩ := bcell (bl_on hb5 k56); have s6 := t6.size)
              | fail)
          all_goals
            go_wp2_with fail
            go_meet
            case rel =>
              first
                | exact ⟨_, _, 9, rfl, rfl, Blk.new w6 _ _, bl_alloc t6 _, .inr ⟨by omega, rfl, rfl⟩⟩
                | exact ⟨_, _, 9, rfl, rfl, ((Blk.new w5 _ _).keep hb6).set_ 0 _, bse t6 s5 _ _, .inr ⟨by omega, rfl, rfl⟩⟩
                | exact ⟨_, _, 9, rfl, rfl, (((Blk.new w1.drew _ _).keep hb5).keep hb6).set_ 0 _, bse t6 (Nat.le_refl _) _ _, .inr ⟨by omega, rfl, rfl⟩⟩
      case rest =>
        obtain ⟨b, T, y, rfl, rfl, KB, BW, HX⟩ := hcut
        have BS2 := Lib.hid (BS1.out.on BW.out)
        rcases HX.out with ⟨h64, rfl, D, c, rfl, hcN⟩ | ⟨h64, rfl, rfl⟩
        · obtain ⟨L, hL⟩ : ∃ L, L = L32 N := ⟨_, rfl⟩
          rw [← hL] at KB hcN h64
          have HL := Lib.hid hL
          have HCN := Lib.hid hcN
          obtain ⟨_, la2, ka⟩ := BS2.out.get (.head _)
          have r1 : wc.cell? ⟨w.heap.size, 1, none⟩ = some (.slice D1 n1 c1) := ka.cell 1
          have rb : wc.cell? ⟨b, 0, none⟩ = some (.slice D L c) := KB.out.cell 0
          clear HX A0 hL hcN ka
          go_wp2_with fail
          refine (divmod_any (x := N) (y := xd) h64 hn1 HL.out H1.out HCN.out (hx1.below BS2.out.below) HXD.out).mono ?_
          rintro e w5 ⟨⟨Dq, cq, Dr, cr, rfl, hlq, hlr, hcq, hcr, hfq, hfr⟩, hb5⟩
          obtain ⟨q, hq⟩ : ∃ q, q = N / xd := ⟨_, rfl⟩
          have hq64 : L32 q ≤ 64 := by rw [hq]; exact len_div (by rw [← HL.out]; exact h64)
          have htl := text_le hq64
          rw [← hq] at hlq hcq ⊢
          have HQ := Lib.hid hq
          obtain ⟨lq, hlq2⟩ : ∃ l, l = L32 q := ⟨_, rfl⟩
          rw [← hlq2] at hlq hcq hq64 ⊢
          have HLQ := Lib.hid hlq2
          obtain ⟨lr, hlr2⟩ : ∃ l, l = L32 (N % xd) := ⟨_, rfl⟩
          rw [← hlr2] at hlr hcr ⊢
          have HCQ := Lib.hid ((hcq.alloc (.cells #[.slice Dq lq cq] TN)).alloc (.cells #[.slice Dr lr cr] TN))
          have BS5 := Lib.hid ((BS2.out.on hb5).below)
          clear hq hlq2 hlr2 hcq hcr hfq hfr hb5 hlq hlr r1 rb la2
          unfold natv
          go_wp2_with fail
          refine (nformat_any (x := q) hq64 HLQ.out HCQ.out).mono ?_
          rintro e w6 ⟨rfl, hb6⟩
          have HB6 := Lib.hid (Below.on (bl_alloc (bl_alloc BS5.out _) _) hb6)
          clear hb6
          obtain ⟨t, ht⟩ : ∃ t, t = Dc.text q := ⟨_, rfl⟩
          rw [← ht] at htl ⊢
          have HT := Lib.hid ht
          clear ht
          by_cases hk0 : k = 0
          · have HF : Hid (dec q k = t) := by rw [HT.out]; exact Lib.hid (by unfold dec; rw [if_pos hk0])
            have e0 : ((k : Int) == 0) = true := by simp; omega
            clear hk0
            go_wp2
            go_ret2
            exact ⟨.inl ⟨by rw [← HL.out]; exact h64, by rw [← HQ.out, HF.out]; rfl⟩, HB6.out⟩
          · have e0 : ((k : Int) == 0) = false := by simp; omega
            have HK0 := Lib.hid hk0
            clear hk0
            by_cases hlt : t.size ≤ k
            · have e1 : ((t.size : Int) ≤ (k : Int)) := by omega
              have e2 : IntKind.i64.wrap ((k : Int) + 1) = (k : Int) + 1 := IntWalk.i64_in _ (by omega)
              obtain ⟨g, hg⟩ : ∃ g, g = k + 1 - t.size := ⟨_, rfl⟩
              have e3 : IntKind.i64.wrap ((k : Int) + 1 - (t.size : Int)) = (g : Int) := by rw [IntWalk.i64_in _ (by omega)]; omega
              have hg1 : 1 ≤ g := by omega
              have hg2 : g ≤ 19 := by omega
              have HG := Lib.hid hg
              clear hg
              go_wp2_with fail
              (with_reducible refine (repeat_any g w6 hg1 hg2).mono ?_)
              rintro e w7 ⟨rfl, hb7⟩
              have HB7 := Lib.hid (Below.on HB6.out hb7)
              clear hb7
              have hzs : (zeros g).size = g := by unfold zeros; show (List.replicate g (48 : UInt8)).toArray.size = g; simp
              obtain ⟨z, hz⟩ : ∃ z, z = zeros g := ⟨_, rfl⟩
              rw [← hz] at hzs ⊢
              have hzi : (z.size : Int) ≤ 19 := by omega
              have HZ := Lib.hid hz
              have HZS := Lib.hid hzs
              have e4 : IntKind.i64.wrap ((z.size : Int) + (t.size : Int) - (k : Int)) = (z.size : Int) + (t.size : Int) - (k : Int) := IntWalk.i64_in _ (by omega)
              clear hz hzs
              go_wp2_with fail
              have HT1 : Hid (z ++ t = pad q k) := by rw [HZ.out, HT.out]; exact Lib.hid (by unfold pad; rw [← HT.out, if_pos hlt, HG.out])
              have HS1 : Hid ((z ++ t).size = k + 1) := Lib.hid (by rw [ByteArray.size_append, HZS.out]; have := HG.out; omega)
              obtain ⟨pp, hpp⟩ : ∃ p : Nat, p = z.size + t.size - k := ⟨_, rfl⟩
              have hp1 : pp = 1 := by have := HZS.out; have := HG.out; omega
              have hp : (z.size : Int) + (t.size : Int) - (k : Int) = (pp : Int) := by have := HZS.out; have := HG.out; omega
              rw [hp]
              obtain ⟨T, hT⟩ : ∃ T, T = z ++ t := ⟨_, rfl⟩
              rw [← hT] at HT1 HS1 ⊢
              have HD : Hid (T.extract 0 pp ++ ⟨#[46]⟩ ++ T.extract pp T.size = dec q k) := by rw [HT1.out] at HS1 ⊢; exact Lib.hid (by unfold dec; rw [if_neg HK0.out, HS1.out, hp1, show k + 1 - k = 1 by omega])
              have hb1 : (pp : Int) ≤ (T.size : Int) := by have := HS1.out; omega
              have hb2 : (0 : Int) ≤ (pp : Int) := by omega
              have hTs : T.size ≤ 20 := by have := HS1.out; omega
              have x1 : (T.extract 0 pp).size ≤ 20 := by rw [ByteArray.size_extract]; omega
              have x2 : (T.extract pp T.size).size ≤ 20 := by rw [ByteArray.size_extract]; omega
              have r1 : ∀ w' : World, (Op.stringOp .add (T.extract 0 pp) ⟨#[46]⟩).run Try.prog w' = .ok (.string (T.extract 0 pp ++ ⟨#[46]⟩)) w' := fun w' => run_string_add_sum w' _ _ (by have : (⟨#[46]⟩ : ByteArray).size = 1 := rfl; omega)
              have r2 : ∀ w' : World, (Op.stringOp .add (T.extract 0 pp ++ ⟨#[46]⟩) (T.extract pp T.size)).run Try.prog w' = .ok (.string (T.extract 0 pp ++ ⟨#[46]⟩ ++ T.extract pp T.size)) w' := fun w' => run_string_add_sum w' _ _ (by rw [ByteArray.size_append]; have : (⟨#[46]⟩ : ByteArray).size = 1 := rfl; omega)
              clear hp hT hpp hp1 e1 e2 e3 e4 x1 x2 hTs
              go_quiet (fail)
              all_goals
                go_wp2
                go_ret2
                exact ⟨.inl ⟨by rw [← HL.out]; exact h64, by rw [← HQ.out, ← HD.out]; rfl⟩, below_drewN HB7.out _⟩
            · have e1 : ((t.size : Int) ≤ (k : Int)) = False := eq_false (by omega)
              have e4 : IntKind.i64.wrap ((t.size : Int) - (k : Int)) = (t.size : Int) - (k : Int) := IntWalk.i64_in _ (by omega)
              go_wp2_with fail
              have HT1 : Hid (t = pad q k) := by rw [HT.out]; exact Lib.hid (by unfold pad; rw [if_neg (by rw [← HT.out]; exact hlt)])
              obtain ⟨pp, hpp⟩ : ∃ p : Nat, p = t.size - k := ⟨_, rfl⟩
              have hp : (t.size : Int) - (k : Int) = (pp : Int) := by omega
              rw [hp]
              have HD : Hid (t.extract 0 pp ++ ⟨#[46]⟩ ++ t.extract pp t.size = dec q k) := by rw [hpp, HT1.out]; exact Lib.hid (by unfold dec; rw [if_neg HK0.out])
              have hb1 : (pp : Int) ≤ (t.size : Int) := by omega
              have hb2 : (0 : Int) ≤ (pp : Int) := by omega
              have x1 : (t.extract 0 pp).size ≤ 700 := by rw [ByteArray.size_extract]; omega
              have x2 : (t.extract pp t.size).size ≤ 700 := by rw [ByteArray.size_extract]; omega
              have r1 : ∀ w' : World, (Op.stringOp .add (t.extract 0 pp) ⟨#[46]⟩).run Try.prog w' = .ok (.string (t.extract 0 pp ++ ⟨#[46]⟩)) w' := fun w' => run_string_add_sum w' _ _ (by have : (⟨#[46]⟩ : ByteArray).size = 1 := rfl; omega)
              have r2 : ∀ w' : World, (Op.stringOp .add (t.extract 0 pp ++ ⟨#[46]⟩) (t.extract pp t.size)).run Try.prog w' = .ok (.string (t.extract 0 pp ++ ⟨#[46]⟩ ++ t.extract pp t.size)) w' := fun w' => run_string_add_sum w' _ _ (by rw [ByteArray.size_append]; have : (⟨#[46]⟩ : ByteArray).size = 1 := rfl; omega)
              clear hp hpp e1 e4 x1 x2 hlt
              go_quiet (fail)
              all_goals
                go_wp2
                go_ret2
                exact ⟨.inl ⟨by rw [← HL.out]; exact h64, by rw [← HQ.out, ← HD.out]; rfl⟩, below_drewN HB6.out _⟩
        · have HB := Lib.hid BS2.out.below
          have H64 := Lib.hid h64
          clear HX KB A0 h64
          go_wp2
          go_ret2
          exact ⟨.inr ⟨H64.out, rfl⟩, HB.out⟩
set_option maxHeartbeats 1000000 in
theorem dec_no {D0 D1 : Option Addr} {n0 n1 c0 c1 : Nat} {b : Bool} {x : Int} {w : World}
    (k0 : ∀ w', Below w.heap.size w w' → Calls Try.prog 19 #[.agg #[.slice D0 n0 c0, .slice D1 n1 c1]] w' fun e w'' => e = .returned (.bool b) ∧ Below w'.heap.size w' w'') (hb : b = false ∨ b = true ∧ (x < 0 ∨ 18 < x)) :
    Calls Try.prog 32 #[fv D0 n0 c0 D1 n1 c1, .int .i64 x] w fun e w' => e = .returned (.tuple #[.string ⟨#[]⟩, .int .i64 2]) ∧ Below w.heap.size w w' := by
  have HK := Lib.hid k0
  have BS0 := Lib.hid (box1 w (.slice D0 n0 c0) (.slice D1 n1 c1))
  clear k0
  unfold fv
  rcases hb with rfl | ⟨rfl, hx | hx⟩
  all_goals
    go_enter Try.func32, Try.ntmps32
    go_wp2_with fail
    refine (HK.out _ BS0.out.below).mono ?_
    rintro e w1 ⟨rfl, hb1⟩
    have HB := Lib.hid (BS0.out.on hb1).below
    clear hb1
    go_wp2
    go_ret2
    exact ⟨rfl, HB.out⟩
end Fr
end Go.Proofs.Yteclghokkdkolaa
