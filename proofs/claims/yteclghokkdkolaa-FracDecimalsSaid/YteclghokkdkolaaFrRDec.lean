/- The walk of the reference's Decimal of a fraction. -/
import Derived.Test.YteclghokkdkolaaFrDecP
import Derived.Test.YteclghokkdkolaaFrRValid
import Derived.Test.YteclghokkdkolaaNatRProd
import Derived.Test.YteclghokkdkolaaNatRFmt
set_option linter.unusedVariables false
namespace Go.Proofs.Yteclghokkdkolaa
open Go.RowKit
namespace Fr
theorem halves_nil {D : Option Addr} {c : Nat} (w : World) :
    Calls Try.prog 70 #[.agg #[.slice D 0 c]] w fun e w' => e = .returned (.slice none 0 0) ∧ Below w.heap.size w w' := by
  have HB0 := Lib.hid ((Below.refl w.heap.size w).alloc (Nat.le_refl _) (.cells #[.slice D 0 c] 24))
  have HZ := Lib.hid (show L16 0 = 0 from L16_zero.2 rfl)
  have HF := Lib.hid (show Fit16 0 0 from fit16_of (by rw [L16_zero.2 rfl]; exact Nat.le_refl _))
  go_enter Try.func70, Try.ntmps70
  go_wp2
  go_loopw [3, 4] (fun s3 s4 wr => s3 = .slice none 0 0 ∧ s4 = .int .i64 0 ∧ Hid (Below w.heap.size w wr) ∧ Hid (Blk wr w.heap.size 24 #[.slice D 0 c])) (fun _ _ _ => 0)
  case atStart => exact ⟨rfl, rfl, HB0, Blk.new w _ _⟩
  case round =>
    obtain ⟨rfl, rfl, HB, HK⟩ := hrel
    have q0 : wr.cell? ⟨w.heap.size, 0, none⟩ = some (.slice D 0 c) := HK.out.cell 0
    go_wp2_with fail
    refine (rtrim_any (m := 0) (N := 0) (D := none) (c := 0) (by omega) (Nat.le_refl _) HF.out Cells.nil).mono ?_
    rintro e w1 ⟨rfl, rfl⟩
    rw [HZ.out]
    go_wp2
    go_ret
    exact ⟨rfl, HB.out⟩
theorem rformat_zero {D : Option Addr} {c : Nat} {w : World} :
    Calls Try.prog 64 #[.agg #[.slice D 0 c]] w fun e w' => e = .returned (.string (Dc.text 0)) ∧ Below w.heap.size w w' := by
  have HB0 := Lib.hid ((Below.refl w.heap.size w).alloc (Nat.le_refl _) (.cells #[.slice D 0 c] 24))
  have HK0 := Lib.hid (Blk.new w 24 #[.slice D 0 c])
  go_enter Try.func64, Try.ntmps64
  go_wp2_with fail
  refine (rvalid_is (f := fun _ => 0) (x := true) (by omega) Cells.nil rfl).mono ?_
  rintro e w1 ⟨rfl, hb1⟩
  have HB1 := Lib.hid (Below.on HB0.out hb1)
  have HK1 := Lib.hid (HK0.out.keep hb1)
  have q0 : w1.cell? ⟨w.heap.size, 0, none⟩ = some (.slice D 0 c) := HK1.out.cell 0
  have hl := HK1.out.lt
  clear hb1
  go_wp2_with fail
  refine (halves_nil _).mono ?_
  rintro e w2 ⟨rfl, hb2⟩
  have HB2 := Lib.hid (Below.on (HB1.out.alloc HB1.out.size (.cells #[] 3)) hb2)
  clear hb2 q0
  go_wp2
  go_loopw [3, 4] (fun s3 s4 wr => s3 = .slice (some ⟨w1.heap.size, 0, none⟩) 0 0 ∧ s4 = .string ⟨#[]⟩ ∧ Hid (Below w.heap.size w wr)) (fun _ _ _ => 0)
  case atStart => exact ⟨rfl, rfl, HB2⟩
  case round =>
    obtain ⟨rfl, rfl, HB⟩ := hrel
    go_wp2
    go_ret
    exact ⟨rfl, HB.out⟩
theorem rformat_full {D : Option Addr} {n c x : Nat} {w : World} (hn : n ≤ 64) (hnx : n = L32 x) (hx : Cells w D n (Lm (d32 x))) :
    Calls Try.prog 64 #[.agg #[.slice D n c]] w fun e w' => e = .returned (.string (Dc.text x)) ∧ Below w.heap.size w w' := by
  by_cases h : x = 0
  · subst h
    obtain rfl : n = 0 := hnx.trans (L32_zero.2 rfl)
    exact rformat_zero
  · exact rformat_any hn hnx h hx
theorem blk_drew {w : World} {g : Nat} {t : TypeId} {cs : Array Value} (h : Blk w g t cs) : Blk w.drew g t cs := h
theorem zeros_next (t : Nat) (s : ByteArray) : (⟨#[48]⟩ : ByteArray) ++ (zeros t ++ s) = zeros (t + 1) ++ s := by
  rw [← ByteArray.append_assoc]
  congr 1
theorem zeros_size (t : Nat) : (zeros t).size = t := by unfold zeros; show (List.replicate t (48 : UInt8)).toArray.size = t; simp
theorem zeros_none (s : ByteArray) : zeros 0 ++ s = s := by
  unfold zeros
  exact ByteArray.empty_append
set_option maxHeartbeats 4000000 in
set_option maxRecDepth 100000 in
theorem rdec_ok {D0 D1 : Option Addr} {n0 n1 c0 c1 xn xd P : Nat} {w : World} (hn0 : n0 ≤ 64) (hn1 : n1 ≤ 64) (h0 : n0 = L32 xn) (h1 : n1 = L32 xd) (hx0 : Cells w D0 n0 (Lm (d32 xn))) (hx1 : Cells w D1 n1 (Lm (d32 xd))) (hf : fok xn xd = true) (hP : P ≤ 18) :
    Calls Try.prog 33 #[fv D0 n0 c0 D1 n1 c1, .int .i64 (P : Int)] w fun e w' => ((L32 (xn * 10 ^ P) ≤ 64 ∧ e = .returned (.tuple #[.string (dec (xn * 10 ^ P / xd) P), .int .i64 0])) ∨ (64 < L32 (xn * 10 ^ P) ∧ e = .returned (.tuple #[.string ⟨#[]⟩, .int .i64 9]))) ∧ Below w.heap.size w w' := by
  have HXD := Lib.hid (fok_pos hf)
  have H0 := Lib.hid h0
  have H1 := Lib.hid h1
  have HK := fun (w' : World) (h : Below w.heap.size w w') => rfvalid_any (c := c0) (c' := c1) hn0 hn1 H0.out H1.out (hx0.below h) (hx1.below h)
  rw [hf] at HK
  have BS0 := Lib.hid (box1 w (.slice D0 n0 c0) (.slice D1 n1 c1))
  obtain ⟨N, hN⟩ : ∃ N, N = xn * 10 ^ P := ⟨_, rfl⟩
  rw [← hN]
  have HN := Lib.hid hN
  clear hf h0 h1 hN
  unfold fv at HK ⊢
  have HKH := Lib.hid HK
  clear HK
  go_enter Try.func33, Try.ntmps33
  go_wp2_with fail
  refine (HKH.out _ BS0.out.below).mono ?_
  rintro e w1 ⟨rfl, hb1⟩
  have BS1 := Lib.hid (BS0.out.on hb1)
  clear hb1 BS0
  go_wp2
  go_loopw [6, 7] (fun v i wr => ∃ k V : Nat, k ≤ P ∧ i = .int .i64 (k : Int) ∧ v = .int .u64 (V : Int) ∧ Hid (V = 10 ^ k) ∧ wr = w1) (fun _ i _ => 20 - (intOf i).toNat)
  case atStart => exact ⟨0, 1, Nat.zero_le _, rfl, rfl, rfl, rfl⟩
  case round =>
    obtain ⟨k, V, hk, rfl, rfl, HV, hwr⟩ := hrel
    obtain rfl := hwr.symm
    by_cases hkP : k < P
    · have hV : V ≤ 10 ^ 17 := by rw [HV.out]; exact Nat.pow_le_pow_right (by omega) (by omega)
      have hw : IntKind.u64.wrap (10 * (V : Int)) = 10 * (V : Int) := IntWalk.u64_in _ (by omega)
      have HV2 := Lib.hid (show 10 * V = 10 ^ (k + 1) by rw [HV.out, Nat.pow_succ, Nat.mul_comm])
      clear hV
      go_wp2
      go_roundw
      case rel => exact ⟨k + 1, 10 * V, by omega, by go_num, by go_num, HV2, by first | trivial | rfl⟩
      case measure => simp [intOf] <;> omega
    · obtain rfl : k = P := by omega
      have hV18 : V ≤ 10 ^ 18 := by rw [HV.out]; exact Nat.pow_le_pow_right (by omega) (by omega)
      obtain ⟨l1, hl1⟩ : ∃ l, l = L32 V := ⟨_, rfl⟩
      have HL1 := Lib.hid hl1
      have hl64 : l1 ≤ 64 := by rw [hl1]; exact Nat.le_trans (fit32_le (N := V) (n := 2) (Nat.lt_of_le_of_lt hV18 (by decide))) (by omega)
      have HOF : Hid (∀ w', Below w1.heap.size w1 w' → Calls Try.prog 43 #[.int .u64 (V : Int)] w' fun e w'' => ∃ D1 c1, e = .returned (.agg #[.slice D1 l1 c1]) ∧ Cells w'' D1 l1 (Lm (d32 V)) ∧ Below w'.heap.size w' w'' ∧ Below w1.heap.size w1 w'') := Lib.hid fun w' hw => by
        refine (refOf_any V (Nat.lt_of_le_of_lt hV18 (by decide)) w').mono ?_
        rintro e w'' ⟨D1, c1, rfl, _, h2, h3⟩
        rw [← HL1.out] at h2 ⊢
        exact ⟨D1, c1, rfl, h2, h3, Below.on hw h3⟩
      have HV18 := Lib.hid hV18
      have HNV : Hid (N = xn * V) := by rw [HN.out, HV.out]; exact Lib.hid rfl
      clear hl1 hV18
      obtain ⟨_, la, ka⟩ := BS1.out.get (.head _)
      have HALL : Hid (∀ w', Below w1.heap.size w1 w' → w'.cell? ⟨w.heap.size, 0, none⟩ = some (.slice D0 n0 c0) ∧ Below w1.heap.size w1 w') := Lib.hid fun w' hw => ⟨((BS1.out.on hw).get (.head _)).2.2.cell 0, hw⟩
      clear ka
      have A0 : Below w1.heap.size w1 w1.drew := (Below.refl _ _).drew
      go_upto_region 8 with (fail)
      go_cut [8, 9] (fun s7 s8 wx => ∃ (b : Nat) (T : Value) (y : Nat), s7 = .pointer (some ⟨b, 0, none⟩) ∧ s8 = .int .i64 (y : Int) ∧ Hid (Blk wx b TN #[T]) ∧ Hid (Below w1.heap.size w1 wx) ∧
        Hid ((L32 N ≤ 64 ∧ y = 0 ∧ ∃ D c, T = .slice D (L32 N) c ∧ Cells wx D (L32 N) (Lm (d32 N))) ∨ (64 < L32 N ∧ y = 9 ∧ T = .slice none 0 0)))
      case first =>
        by_cases h64 : L32 N ≤ 64
        · have HMU : Hid (∀ w' D1 c1, Cells w' D1 l1 (Lm (d32 V)) → Below w1.heap.size w1 w' → Calls Try.prog 59 #[.agg #[.slice D0 n0 c0], .agg #[.slice D1 l1 c1]] w' fun e w'' => ∃ D c, e = .returned (.tuple #[.agg #[.slice D (L32 N) c], .int .i64 0]) ∧ Cells w'' D (L32 N) (Lm (d32 N)) ∧ Fresh w'.heap.size D ∧ Below w'.heap.size w' w'' ∧ Below w1.heap.size w1 w'') := Lib.hid fun w' D1 c1 hc hw => by
            refine (refMul_any (x := xn) (y := V) hn0 hl64 H0.out HL1.out (hx0.below (BS1.out.on hw).below) hc).mono ?_
            rintro e w'' ⟨hr, hb⟩
            rw [← HNV.out] at hr
            rcases hr with ⟨_, D, c, rfl, _, h5, h6⟩ | ⟨h9, _⟩
            · exact ⟨D, c, rfl, h5, h6, hb, Below.on hw hb⟩
            · omega
          go_region_held3 (fun w' => w'.cell? ⟨w.heap.size, 0, none⟩ = some (.slice D0 n0 c0) ∧ Below w1.heap.size w1 w')
            ((refine HALL.out _ ?_; repeat' (first | exact (by assumption) | exact Below.refl _ _ | refine bl_alloc ?_ _ | refine bse ?_ (by first | omega | (simp; done) | (simp; omega)) _ _ | refine Below.drew ?_)))
            (first
              | (go_at_call 43; (with_reducible refine (HOF.out _ ?_).mono ?_); (first | assumption | exact bl_alloc (by assumption) _); rintro e5 w5 ⟨D5, c5, rfl, hc5, hb5, t5⟩; obtain ⟨bc5, bf5⟩ := bcell hb5; have s5 := t5.size)
              | (go_at_call 59; (with_reducible refine (HMU.out _ _ _ ?_ ?_).mono ?_); (first | exact hc5 | exact hc5.alloc _); (first | assumption | exact bl_alloc (by assumption) _); rintro e6 w6 ⟨D6, c6, rfl, hc6, hf6, hb6, t6⟩; obtain ⟨bc6, bf6⟩ := bcell hb6; have k56 : Below w5.heap.size w5 w6 := (by first | exact hb6 | exact bl_on (bl_alloc (Below.refl _ _) _) hb6); obtain ⟨bc56, bf56⟩ := bcell (bl_on hb5 k56); have s6 := t6.size)
              | fail)
          all_goals
            go_wp2_with fail
            go_meet
            case rel =>
              first
                | exact ⟨_, _, 0, rfl, rfl, Blk.new w6 _ _, bl_alloc t6 _, .inl ⟨h64, rfl, D6, c6, rfl, hc6.alloc _⟩⟩
                | exact ⟨_, _, 0, rfl, rfl, ((Blk.new w5 _ _).keep hb6).set_ 0 _, bse t6 s5 _ _, .inl ⟨h64, rfl, D6, c6, rfl, hc6.set_ hf6 (by simp) _ _⟩⟩
                | exact ⟨_, _, 0, rfl, rfl, (((Blk.new w1.drew _ _).keep hb5).keep hb6).set_ 0 _, bse t6 (Nat.le_refl _) _ _, .inl ⟨h64, rfl, D6, c6, rfl, hc6.set_ hf6 (by have h1 := hb5.size; simp at h1; omega) _ _⟩⟩
        · have HMU : Hid (∀ w' D1 c1, Cells w' D1 l1 (Lm (d32 V)) → Below w1.heap.size w1 w' → Calls Try.prog 59 #[.agg #[.slice D0 n0 c0], .agg #[.slice D1 l1 c1]] w' fun e w'' => e = .returned (.tuple #[.agg #[.slice none 0 0], .int .i64 9]) ∧ Below w'.heap.size w' w'' ∧ Below w1.heap.size w1 w'') := Lib.hid fun w' D1 c1 hc hw => by
            refine (refMul_any (x := xn) (y := V) hn0 hl64 H0.out HL1.out (hx0.below (BS1.out.on hw).below) hc).mono ?_
            rintro e w'' ⟨hr, hb⟩
            rw [← HNV.out] at hr
            rcases hr with ⟨h9, _⟩ | ⟨_, rfl⟩
            · omega
            · exact ⟨rfl, hb, Below.on hw hb⟩
          go_region_held3 (fun w' => w'.cell? ⟨w.heap.size, 0, none⟩ = some (.slice D0 n0 c0) ∧ Below w1.heap.size w1 w')
            ((refine HALL.out _ ?_; repeat' (first | exact (by assumption) | exact Below.refl _ _ | refine bl_alloc ?_ _ | refine bse ?_ (by first | omega | (simp; done) | (simp; omega)) _ _ | refine Below.drew ?_)))
            (first
              | (go_at_call 43; (with_reducible refine (HOF.out _ ?_).mono ?_); (first | assumption | exact bl_alloc (by assumption) _); rintro e5 w5 ⟨D5, c5, rfl, hc5, hb5, t5⟩; obtain ⟨bc5, bf5⟩ := bcell hb5; have s5 := t5.size)
              | (go_at_call 59; (with_reducible refine (HMU.out _ _ _ ?_ ?_).mono ?_); (first | exact hc5 | exact hc5.alloc _); (first | assumption | exact bl_alloc (by assumption) _); rintro e6 w6 ⟨rfl, hb6, t6⟩; obtain ⟨bc6, bf6⟩ := bcell hb6; have k56 : Below w5.heap.size w5 w6 := (by first | exact hb6 | exact bl_on (bl_alloc (Below.refl _ _) _) hb6); obtain ⟨bc56, bf56⟩ := bcell (bl_on hb5 k56); have s6 := t6.size)
              | fail)
          all_goals
            go_wp2_with fail
            go_meet
            case rel =>
              first
                | exact ⟨_, _, 9, rfl, rfl, Blk.new w6 _ _, bl_alloc t6 _, .inr ⟨by omega, rfl, rfl⟩⟩
                | exact ⟨_, _, 9, rfl, rfl, ((Blk.new w5 _ _).keep hb6).set_ 0 _, bse t6 s5 _ _, .inr ⟨by omega, rfl, rfl⟩⟩
                | exact ⟨_, _, 9, rfl, rfl, (((Blk.new w1.drew _ _).keep hb5).keep hb6).set_ 0 _, bse t6 (Nat.le_refl _) _ _, .inr ⟨by omega, rfl, rfl⟩⟩
      case rest =>
        obtain ⟨b, T, y, rfl, rfl, KB, BW, HX⟩ := hcut
        have BS2 := Lib.hid (BS1.out.on BW.out)
        rcases HX.out with ⟨h64, rfl, D, c, rfl, hcN⟩ | ⟨h64, rfl, rfl⟩
        · obtain ⟨L, hL⟩ : ∃ L, L = L32 N := ⟨_, rfl⟩
          rw [← hL] at KB hcN h64
          have HL := Lib.hid hL
          have HCN := Lib.hid hcN
          obtain ⟨_, la2, ka⟩ := BS2.out.get (.head _)
          have r1 : wc.cell? ⟨w.heap.size, 1, none⟩ = some (.slice D1 n1 c1) := ka.cell 1
          have rb : wc.cell? ⟨b, 0, none⟩ = some (.slice D L c) := KB.out.cell 0
          clear HX A0 hL hcN ka
          go_wp2_with fail
          refine (refDivmod_any (x := N) (y := xd) h64 hn1 HL.out H1.out HCN.out (hx1.below BS2.out.below) HXD.out).mono ?_
          rintro e w5 ⟨⟨Dq, cq, Dr, cr, rfl, hlq, hlr, hcq, hcr, hfq, hfr⟩, hb5⟩
          obtain ⟨q, hq⟩ : ∃ q, q = N / xd := ⟨_, rfl⟩
          have hq64 : L32 q ≤ 64 := by rw [hq]; exact len_div (by rw [← HL.out]; exact h64)
          have htl := Lib.hid (text_le hq64)
          rw [← hq] at hlq hcq ⊢
          have HQ := Lib.hid hq
          obtain ⟨lq, hlq2⟩ : ∃ l, l = L32 q := ⟨_, rfl⟩
          rw [← hlq2] at hlq hcq hq64 ⊢
          have HLQ := Lib.hid hlq2
          obtain ⟨lr, hlr2⟩ : ∃ l, l = L32 (N % xd) := ⟨_, rfl⟩
          rw [← hlr2] at hlr hcr ⊢
          have HCQ5 := Lib.hid ((hcq.alloc (.cells #[.slice Dq lq cq] TN)).alloc (.cells #[.slice Dr lr cr] TN))
          have bs5 := ((BS2.out.on hb5).alloc TN #[.slice Dq lq cq]).alloc TN #[.slice Dr lr cr]
          simp only [World.size_alloc] at bs5
          have BS5 := Lib.hid bs5
          have HU64 := Lib.hid (show L32 N ≤ 64 by rw [← HL.out]; exact h64)
          clear hq hlq2 hlr2 hcq hcr hfq hfr hb5 hlq hlr r1 rb la2 HOF bs5 h64
          unfold natv
          go_upto_region 14 with (fail)
          obtain ⟨wa, hwa⟩ : ∃ wa, wa = (w5.alloc (.cells #[.slice Dq lq cq] TN)).alloc (.cells #[.slice Dr lr cr] TN) := ⟨_, rfl⟩
          obtain ⟨bq, hbq⟩ : ∃ z, z = w5.heap.size := ⟨_, rfl⟩
          rw [← hwa, ← hbq] at BS5
          rw [← hwa] at HCQ5
          change Code.wp _ _ _ _ ((w5.alloc (.cells #[.slice Dq lq cq] TN)).alloc (.cells #[.slice Dr lr cr] TN))
          rw [← hwa]
          rw [show (Value.pointer (some ⟨w5.heap.size, 0, none⟩)) = .pointer (some ⟨bq, 0, none⟩) by rw [hbq]]
          clear hwa hbq
          have V0 := Lib.hid (show 0 < V by rw [HV.out]; exact Nat.pow_pos (by omega))
          obtain ⟨Q, hQ⟩ : ∃ Q, Q = q / V := ⟨_, rfl⟩
          obtain ⟨r, hr⟩ : ∃ r, r = q % V := ⟨_, rfl⟩
          obtain ⟨l3, hl3⟩ : ∃ l, l = L32 Q := ⟨_, rfl⟩
          obtain ⟨l4, hl4⟩ : ∃ l, l = L32 r := ⟨_, rfl⟩
          have HQQ := Lib.hid hQ
          have HRR := Lib.hid hr
          have HL3 := Lib.hid hl3
          have HL4 := Lib.hid hl4
          have hl364 : l3 ≤ 64 := by rw [hl3, hQ]; exact len_div (by rw [← HLQ.out]; exact hq64)
          have hl464 : l4 ≤ 64 := by rw [hl4, hr]; exact Nat.le_trans (Nt.len_mono (by omega) (Nat.mod_le _ _)) (show L32 q ≤ 64 by rw [← HLQ.out]; exact hq64)
          clear hQ hr hl3 hl4
          have HOF : Hid (∀ w', Below wa.heap.size wa w' → Calls Try.prog 43 #[.int .u64 (V : Int)] w' fun e w'' => ∃ D1 c1, e = .returned (.agg #[.slice D1 l1 c1]) ∧ Cells w'' D1 l1 (Lm (d32 V)) ∧ Below w'.heap.size w' w'' ∧ Below wa.heap.size wa w'') := Lib.hid fun w' hw => by
            refine (refOf_any V (Nat.lt_of_le_of_lt HV18.out (by decide)) w').mono ?_
            rintro e w'' ⟨D1, c1, rfl, _, h2, h3⟩
            rw [← HL1.out] at h2 ⊢
            exact ⟨D1, c1, rfl, h2, h3, Below.on hw h3⟩
          have HDM : Hid (∀ w' D1 c1, Cells w' D1 l1 (Lm (d32 V)) → Below wa.heap.size wa w' → Calls Try.prog 63 #[.agg #[.slice Dq lq cq], .agg #[.slice D1 l1 c1]] w' fun e w'' => ∃ D c E k, e = .returned (.tuple #[.agg #[.slice D l3 c], .agg #[.slice E l4 k], .int .i64 0]) ∧ Cells w'' D l3 (Lm (d32 Q)) ∧ Cells w'' E l4 (Lm (d32 r)) ∧ Fresh w'.heap.size D ∧ Fresh w'.heap.size E ∧ Below w'.heap.size w' w'' ∧ Below wa.heap.size wa w'') := Lib.hid fun w' D1 c1 hc hw => by
            refine (refDivmod_any (x := q) (y := V) hq64 hl64 HLQ.out HL1.out (HCQ5.out.below hw) hc V0.out).mono ?_
            rintro e w'' ⟨⟨D, c, E, k, rfl, _, _, h1, h2, h3, h4⟩, hb⟩
            rw [← HQQ.out, ← HL3.out] at h1
            rw [← HRR.out, ← HL4.out] at h2
            exact ⟨D, c, E, k, by rw [← HQQ.out, ← HL3.out, ← HRR.out, ← HL4.out]; rfl, h1, h2, h3, h4, hb, Below.on hw hb⟩
          have HALL2 : Hid (∀ w', Below wa.heap.size wa w' → w'.cell? ⟨bq, 0, none⟩ = some (.slice Dq lq cq) ∧ Below wa.heap.size wa w') := Lib.hid fun w' hw => ⟨((BS5.out.on hw).get (.tail _ (.head _))).2.2.cell 0, hw⟩
          have A0 : Below wa.heap.size wa wa.drew := (Below.refl _ _).drew
          have HLTQ := Lib.hid (BS5.out.get (.tail _ (.head _))).2.1
          go_cut [13, 14, 15] (fun s13 s14 s15 wx => ∃ (b b' : Nat) (D : Option Addr) (c : Nat) (E : Option Addr) (k : Nat), s13 = .pointer (some ⟨b, 0, none⟩) ∧ s14 = .pointer (some ⟨b', 0, none⟩) ∧ s15 = .int .i64 0 ∧ Hid (Blk wx b TN #[.slice D l3 c]) ∧ Hid (Blk wx b' TN #[.slice E l4 k]) ∧ Hid (Cells wx D l3 (Lm (d32 Q))) ∧ Hid (Cells wx E l4 (Lm (d32 r))) ∧ Hid (Below wa.heap.size wa wx))
          case first =>
            go_region_held3 (fun w' => w'.cell? ⟨bq, 0, none⟩ = some (.slice Dq lq cq) ∧ Below wa.heap.size wa w')
              ((refine HALL2.out _ ?_; repeat' (first | exact (by assumption) | exact Below.refl _ _ | refine bl_alloc ?_ _ | refine bse ?_ (by first | omega | (simp; done) | (simp; omega)) _ _ | refine Below.drew ?_)))
              (first
                | (go_at_call 43; (with_reducible refine (HOF.out _ ?_).mono ?_); (first | assumption | exact bl_alloc (by assumption) _ | exact bl_alloc (bl_alloc (by assumption) _) _); rintro e5 w6 ⟨D5, c5, rfl, hc5, hb5, t5⟩; obtain ⟨bc5, bf5⟩ := bcell hb5; have s5 := t5.size; (try (have x5 : wa.heap.size < w6.heap.size := by have := hb5.size; (try simp at this); omega)); (try (have y5 : wa.heap.size + 1 < w6.heap.size := by have := hb5.size; (try simp at this); omega)))
                | (go_at_call 63; (with_reducible refine (HDM.out _ _ _ ?_ ?_).mono ?_); (first | exact hc5 | exact hc5.alloc _ | exact (hc5.alloc _).alloc _); (first | assumption | exact bl_alloc (by assumption) _ | exact bl_alloc (bl_alloc (by assumption) _) _); rintro e6 w7 ⟨D6, c6, E6, k6, rfl, hc6, hd6, hf6, hg6, hb6, t6⟩; obtain ⟨bc6, bf6⟩ := bcell hb6; have k56 : Below w6.heap.size w6 w7 := (by first | exact hb6 | exact bl_on (bl_alloc (Below.refl _ _) _) hb6 | exact bl_on (bl_alloc (bl_alloc (Below.refl _ _) _) _) hb6); obtain ⟨bc56, bf56⟩ := bcell (bl_on hb5 k56); have s6 := t6.size; (try (have x6 : w6.heap.size < w7.heap.size := by have := hb6.size; (try simp at this); omega)); (try (have y6 : w6.heap.size + 1 < w7.heap.size := by have := hb6.size; (try simp at this); omega)); (try (have x7 : wa.heap.size < w7.heap.size := by have := hb6.size; (try simp at this); omega)); (try (have y7 : wa.heap.size + 1 < w7.heap.size := by have := hb6.size; (try simp at this); omega)))
                | fail)
            all_goals
              go_wp2_with fail
              go_meet
              case rel =>
                have z5 := hb5.size
                have z6 := hb6.size
                simp at z5 z6
                refine ⟨_, _, D6, c6, E6, k6, rfl, rfl, rfl, Lib.hid ?_, Lib.hid ?_, Lib.hid ?_, Lib.hid ?_, Lib.hid ?_⟩
                · repeat' (first | with_reducible exact Blk.new _ _ _ | with_reducible exact Blk.new' (by first | (simp; done) | omega) | with_reducible refine blk_drew ?_ | with_reducible refine Blk.put (a := .slice none 0 0) ?_ _ | with_reducible refine Blk.other ?_ (by first | omega | (simp; omega)) _ | with_reducible refine Blk.alloc ?_ _ | with_reducible refine Blk.keep ?_ hb6 | with_reducible refine Blk.keep ?_ hb5)
                · repeat' (first | with_reducible exact Blk.new _ _ _ | with_reducible exact Blk.new' (by first | (simp; done) | omega) | with_reducible refine blk_drew ?_ | with_reducible refine Blk.put (a := .slice none 0 0) ?_ _ | with_reducible refine Blk.other ?_ (by first | omega | (simp; omega)) _ | with_reducible refine Blk.alloc ?_ _ | with_reducible refine Blk.keep ?_ hb6 | with_reducible refine Blk.keep ?_ hb5)
                · repeat' (first | with_reducible exact hc6 | with_reducible refine Cells.alloc ?_ _ | with_reducible refine Cells.set_ ?_ hf6 (by first | omega | (simp; done) | (simp; omega)) _ _)
                · repeat' (first | with_reducible exact hd6 | with_reducible refine Cells.alloc ?_ _ | with_reducible refine Cells.set_ ?_ hg6 (by first | omega | (simp; done) | (simp; omega)) _ _)
                · repeat' (first | with_reducible exact t6 | with_reducible refine bl_alloc ?_ _ | with_reducible refine bse ?_ (by first | omega | (simp; done) | (simp; omega)) _ _)
          case rest =>
            obtain ⟨b3, b4, D3, c3, D4, c4, rfl, rfl, rfl, K3, K4, HC3, HC4, BWW⟩ := hcut
            have BS6 := Lib.hid (BS5.out.on BWW.out)
            have HCQ := Lib.hid (HCQ5.out.below BWW.out)
            have q4 : wc.cell? ⟨b4, 0, none⟩ = some (.slice D4 l4 c4) := K4.out.cell 0
            have l4' := K4.out.lt
            clear HALL2 HOF HDM A0
            obtain ⟨_, tq, kq⟩ := BS6.out.get (.tail _ (.head _))
            have qq : wc.cell? ⟨bq, 0, none⟩ = some (.slice Dq lq cq) := kq.cell 0
            clear kq
            by_cases hk0 : k = 0
            · have HF : Hid (dec q k = Dc.text q) := Lib.hid (by unfold dec; rw [if_pos hk0])
              have e0 : ((k : Int) == 0) = true := by simp; omega
              clear hk0
              go_wp2_with fail
              refine (rformat_full (x := q) hq64 HLQ.out HCQ.out).mono ?_
              rintro e w8 ⟨rfl, hb8⟩
              have HB8 := Lib.hid (BS6.out.on hb8).below
              clear hb8
              go_wp2
              go_ret2
              exact ⟨.inl ⟨HU64.out, by rw [← HQ.out, HF.out]; rfl⟩, HB8.out⟩
            · have e0 : ((k : Int) == 0) = false := by simp; omega
              have HDP := Lib.hid (dec_parts (q := q) (P := k) (by omega))
              rw [← HV.out, ← HQQ.out, ← HRR.out] at HDP
              have hrs := HDP.out.2
              have HD := Lib.hid HDP.out.1
              clear hk0 HDP
              go_wp2_with fail
              refine (rformat_full (x := r) hl464 HL4.out HC4.out).mono ?_
              rintro e w8 ⟨rfl, hb8⟩
              have BS8 := Lib.hid (BS6.out.on hb8)
              have K8 := Lib.hid (K3.out.keep hb8)
              have HC8 := Lib.hid (HC3.out.below hb8)
              clear hb8 q4 l4' qq tq BS6 HCQ
              obtain ⟨t, ht⟩ : ∃ t, t = Dc.text r := ⟨_, rfl⟩
              rw [← ht] at hrs HD ⊢
              have HTX := Lib.hid ht
              clear ht
              have htz : Hid (t = zeros 0 ++ t) := Lib.hid (zeros_none t).symm
              go_wp2
              go_loopw [16, 17] (fun s16 s17 wr => ∃ (j : Nat) (s : ByteArray), j ≤ k - t.size ∧ s16 = .string s ∧ s17 = .int .i64 (j : Int) ∧ Hid (s = zeros j ++ t) ∧ wr = w8) (fun _ i _ => 20 - (intOf i).toNat)
              case atStart => exact ⟨0, t, Nat.zero_le _, rfl, rfl, htz, rfl⟩
              case round =>
                obtain ⟨j, s, hj, rfl, rfl, HS, hwr⟩ := hrel
                obtain rfl := hwr.symm
                have hss : s.size = j + t.size := by rw [HS.out, ByteArray.size_append, zeros_size]
                by_cases hjk : j < k - t.size
                · have e1 : ((j : Int) < 18) := by omega
                  have e2 : ((s.size : Int) < (k : Int)) := by omega
                  have HS2 := Lib.hid (show (⟨#[48]⟩ : ByteArray) ++ s = zeros (j + 1) ++ t by rw [HS.out]; exact zeros_next j t)
                  have r1 : ∀ w' : World, (Op.stringOp .add ⟨#[48]⟩ s).run Try.prog w' = .ok (.string (⟨#[48]⟩ ++ s)) w' := fun w' => run_string_add_sum w' _ _ (by have : (⟨#[48]⟩ : ByteArray).size = 1 := rfl; omega)
                  have hj1 : IntKind.i64.wrap ((j : Int) + 1) = (j : Int) + 1 := IntWalk.i64_in _ (by omega)
                  go_wp2
                  go_roundw
                  case rel => exact ⟨j + 1, _, by omega, rfl, by go_num, HS2, by first | trivial | rfl⟩
                  case measure => simp [intOf] <;> omega
                · have htp : 0 < t.size := by rw [HTX.out]; exact Dc.text_pos r
                  have e1 : ((j : Int) < 18) := by omega
                  have e2 : ((s.size : Int) < (k : Int)) = False := eq_false (by omega)
                  have hsk : s.size ≤ 18 := by omega
                  have HSE : Hid (s = zeros (k - t.size) ++ t) := by rw [HS.out, show j = k - t.size by omega]; exact Lib.hid rfl
                  clear hss hjk
                  have q3 : w8.cell? ⟨b3, 0, none⟩ = some (.slice D3 l3 c3) := K8.out.cell 0
                  have hl3' := K8.out.lt
                  go_wp2_with fail
                  refine (rformat_full (x := Q) hl364 HL3.out HC8.out).mono ?_
                  rintro e w9 ⟨rfl, hb9⟩
                  have HB9 := Lib.hid (BS8.out.on hb9).below
                  obtain ⟨u, hu⟩ : ∃ u, u = Dc.text Q := ⟨_, rfl⟩
                  have hus : u.size ≤ 700 := by rw [hu]; exact text_le (by rw [← HL3.out]; exact hl364)
                  rw [← hu] at HD ⊢
                  have HDS : Hid (u ++ ⟨#[46]⟩ ++ s = dec q k) := by rw [HSE.out]; exact Lib.hid HD.out.symm
                  have r1 : ∀ w' : World, (Op.stringOp .add u ⟨#[46]⟩).run Try.prog w' = .ok (.string (u ++ ⟨#[46]⟩)) w' := fun w' => run_string_add_sum w' _ _ (by have : (⟨#[46]⟩ : ByteArray).size = 1 := rfl; omega)
                  have r2 : ∀ w' : World, (Op.stringOp .add (u ++ ⟨#[46]⟩) s).run Try.prog w' = .ok (.string (u ++ ⟨#[46]⟩ ++ s)) w' := fun w' => run_string_add_sum w' _ _ (by rw [ByteArray.size_append]; have : (⟨#[46]⟩ : ByteArray).size = 1 := rfl; omega)
                  clear hb9 hu q3 hl3'
                  go_wp2
                  go_ret2
                  exact ⟨.inl ⟨HU64.out, by rw [← HQ.out, ← HDS.out]; rfl⟩, HB9.out⟩
        · have HB := Lib.hid BS2.out.below
          have H64 := Lib.hid h64
          clear HX KB A0 h64
          go_wp2
          go_ret2
          exact ⟨.inr ⟨H64.out, rfl⟩, HB.out⟩
set_option maxHeartbeats 1000000 in
theorem rdec_no {D0 D1 : Option Addr} {n0 n1 c0 c1 : Nat} {b : Bool} {x : Int} {w : World}
    (k0 : ∀ w', Below w.heap.size w w' → Calls Try.prog 21 #[.agg #[.slice D0 n0 c0, .slice D1 n1 c1]] w' fun e w'' => e = .returned (.bool b) ∧ Below w'.heap.size w' w'') (hb : b = false ∨ b = true ∧ (x < 0 ∨ 18 < x)) :
    Calls Try.prog 33 #[fv D0 n0 c0 D1 n1 c1, .int .i64 x] w fun e w' => e = .returned (.tuple #[.string ⟨#[]⟩, .int .i64 2]) ∧ Below w.heap.size w w' := by
  have HK := Lib.hid k0
  have BS0 := Lib.hid (box1 w (.slice D0 n0 c0) (.slice D1 n1 c1))
  clear k0
  unfold fv
  rcases hb with rfl | ⟨rfl, hx | hx⟩
  all_goals
    go_enter Try.func33, Try.ntmps33
    go_wp2_with fail
    refine (HK.out _ BS0.out.below).mono ?_
    rintro e w1 ⟨rfl, hb1⟩
    have HB := Lib.hid (BS0.out.on hb1).below
    clear hb1
    go_wp2
    go_ret2
    exact ⟨rfl, HB.out⟩
end Fr
end Go.Proofs.Yteclghokkdkolaa
