/- The walk of the law NatTexts. -/
import Derived.Test.YthjbkadhgcjnaaaNatTxt
import Derived.Test.YthjbkadhgcjnaaaBox
set_option linter.unusedVariables false
namespace Go.Proofs.Ythjbkadhgcjnaaa
open Go.RowKit

structure B3 (W w : World) (b1 b2 b3 : Nat) (S1 S2 S3 : Value) : Prop where
  below : Below W.heap.size W w
  k1 : Blk w b1 24 #[S1]
  k2 : Blk w b2 24 #[S2]
  k3 : Blk w b3 24 #[S3]
theorem B3.on {W w w' : World} {b1 b2 b3 : Nat} {S1 S2 S3 : Value} (h : B3 W w b1 b2 b3 S1 S2 S3) (k : Below w.heap.size w w') : B3 W w' b1 b2 b3 S1 S2 S3 := ⟨Below.on h.below k, h.k1.keep k, h.k2.keep k, h.k3.keep k⟩
theorem B3.all {W w : World} {b1 b2 b3 : Nat} {S1 S2 S3 : Value} (h : B3 W w b1 b2 b3 S1 S2 S3) : w.cell? ⟨b1, 0, none⟩ = some S1 ∧ w.cell? ⟨b2, 0, none⟩ = some S2 ∧ w.cell? ⟨b3, 0, none⟩ = some S3 ∧ B3 W w b1 b2 b3 S1 S2 S3 := ⟨h.k1.cell 0, h.k2.cell 0, h.k3.cell 0, h⟩
/-- What both Formats answer. -/
def Texts (w : World) (D : Option Addr) (n c : Nat) (T : ByteArray) : Prop := ∀ w', Below w.heap.size w w' →
  Calls Try.prog 31 #[.agg #[.slice D n c]] w' (fun e w'' => e = .returned (.string T) ∧ Below w'.heap.size w' w'') ∧
  Calls Try.prog 32 #[.agg #[.slice D n c]] w' (fun e w'' => e = .returned (.string T) ∧ Below w'.heap.size w' w'')
theorem texts_bad {W : World} {D : Option Addr} {n c : Nat} {f : Nat → Nat} (hn : n ≤ 9223372036854775807) (hD : Cells W D n (Lm f)) (hv : vd n f = false) : Texts W D n c ByteArray.empty := fun w' hb => ⟨nformat_bad hn (hD.below hb) hv, rformat_bad hn (hD.below hb) hv⟩
theorem texts_good {W : World} {D : Option Addr} {n c x : Nat} (hn : n ≤ 64) (hnx : n = L32 x) (hD : Cells W D n (Lm (d32 x))) : Texts W D n c (Dc.text x) := fun w' hb => by
  refine ⟨nformat_any hn hnx (hD.below hb), ?_⟩
  by_cases h0 : x = 0
  · subst h0
    rw [L32_zero.2 rfl] at hnx
    subst hnx
    exact rformat_zero
  · exact rformat_any hn hnx h0 (hD.below hb)
theorem parse_ok {s : ByteArray} {f : FuncId} {w : World} (h : Calls Try.prog f #[.string s] w fun e w' => ParseRes w' e s ∧ Below w.heap.size w w') (he : Dc.err s = 0) :
    Calls Try.prog f #[.string s] w fun e w' => ∃ D c, e = .returned (.tuple #[.agg #[.slice D (L32 (Dc.pv s s.size)) c], .int .i64 0]) ∧ Cells w' D (L32 (Dc.pv s s.size)) (Lm (d32 (Dc.pv s s.size))) ∧ Below w.heap.size w w' := by
  refine h.mono ?_
  rintro e w1 ⟨⟨_, D, c, he', _, hc⟩ | ⟨hno, _⟩, hb⟩
  · exact ⟨D, c, he', hc, hb⟩
  · exact absurd he hno
theorem parse_no {s : ByteArray} {f : FuncId} {w : World} {y : Int} (h : Calls Try.prog f #[.string s] w fun e w' => ParseRes w' e s ∧ Below w.heap.size w w') (he : Dc.err s = y) (hy : y ≠ 0) :
    Calls Try.prog f #[.string s] w fun e w' => e = .returned (.tuple #[.agg #[.slice none 0 0], .int .i64 y]) ∧ Below w.heap.size w w' := by
  refine h.mono ?_
  rintro e w1 ⟨⟨hno, _⟩ | ⟨_, he'⟩, hb⟩
  · rw [hno] at he; exact absurd he.symm hy
  · rw [he] at he'; exact ⟨he', hb⟩
set_option maxHeartbeats 4000000 in
set_option maxRecDepth 100000 in
theorem texts_ok_good (W : World) {D : Option Addr} {n c : Nat} {f : Nat → Nat} (hn9 : n ≤ 9223372036854775807) (hD : Cells W D n (Lm f)) (s : ByteArray) (hs : s.size ≤ maxLen) {N : Nat} (HN : Hid (Dc.pv s s.size = N)) (HE : Hid (Dc.err s = 0)) (HBK : Hid (Dc.text N = s)) (hN64 : L32 N ≤ 64) {x : Nat} (hn : n ≤ 64) (HX : Hid (n = L32 x)) (hX : Cells W D n (Lm (d32 x))) (HV : Hid (vd n (d32 x) = true)) (HT : Hid (Texts W D n c (Dc.text x))) (HT64 : Hid ((Dc.text x).size ≤ maxLen)) (HTE : Hid (Dc.err (Dc.text x) = 0)) (HTP : Hid (Dc.pv (Dc.text x) (Dc.text x).size = x)) :
    Calls Try.prog 6 #[.agg #[.slice D n c], .string s] W fun e w' => e = .returned (.bool true) ∧ Below W.heap.size W w' := by
  have hb0 := Lib.hid ((Below.refl W.heap.size W).alloc (Nat.le_refl _) (.cells #[.slice D n c] 24))
  have hk0 := Lib.hid (Blk.new W 24 #[.slice D n c])
  have S7 := Lib.hid seven
  have hl7 := Lib.hid (L32_one (k := 7) (by omega) (by omega))
  have HT1 : Hid (∀ w' : World, Below W.heap.size W w' → Calls Try.prog 31 #[.agg #[.slice D n c]] w' fun e w6 => e = .returned (.string (Dc.text x)) ∧ Below w'.heap.size w' w6) := Lib.hid fun w' hb => (HT.out w' hb).1
  have HT2 : Hid (∀ w' : World, Below W.heap.size W w' → Calls Try.prog 32 #[.agg #[.slice D n c]] w' fun e w6 => e = .returned (.string (Dc.text x)) ∧ Below w'.heap.size w' w6) := Lib.hid fun w' hb => (HT.out w' hb).2
  go_enter Try.func6, Try.ntmps6
  go_wp2_with fail
  refine (parse_ok (nparse_any s _ hs) HE.out).mono ?_
  rintro e w1 ⟨D1, c1, rfl, hc1, hb1⟩
  rw [HN.out] at hc1 ⊢
  have HB1 := Lib.hid ((Below.on hb0.out hb1).alloc (Below.on hb0.out hb1).size (.cells #[.slice D1 (L32 N) c1] 24))
  have HA1 := Lib.hid ((hk0.out.keep hb1).alloc (.cells #[.slice D1 (L32 N) c1] 24))
  have HK1 := Lib.hid (Blk.new w1 24 #[.slice D1 (L32 N) c1])
  have HC1 := Lib.hid (hc1.alloc (.cells #[.slice D1 (L32 N) c1] 24))
  clear hb1 hc1
  go_wp2_with fail
  refine (parse_ok (rparse_any s _ hs) HE.out).mono ?_
  rintro e w2 ⟨D2, c2, rfl, hc2, hb2⟩
  rw [HN.out] at hc2 ⊢
  replace HC1 := Lib.hid ((HC1.out.below hb2).alloc (.cells #[.slice D2 (L32 N) c2] 24))
  have HC2 := Lib.hid (hc2.alloc (.cells #[.slice D2 (L32 N) c2] 24))
  have HB2 := Lib.hid ((Below.on HB1.out hb2).alloc (Below.on HB1.out hb2).size (.cells #[.slice D2 (L32 N) c2] 24))
  have HQ : Hid (B3 W (w2.alloc (.cells #[.slice D2 (L32 N) c2] 24)) W.heap.size w1.heap.size w2.heap.size (.slice D n c) (.slice D1 (L32 N) c1) (.slice D2 (L32 N) c2)) := ⟨HB2.out, (HA1.out.keep hb2).alloc _, (HK1.out.keep hb2).alloc _, Blk.new w2 _ _⟩
  clear hb2 HB1 HA1 HK1
  go_upto_region 3 with (fail)
  generalize w2.alloc (.cells #[.slice D2 (L32 N) c2] 24) = W2 at HC1 HC2 HB2 HQ ⊢
  obtain ⟨q0, q1, q2, _⟩ := HQ.out.all
  have HQd : B3 W W2.drew W.heap.size w1.heap.size w2.heap.size (.slice D n c) (.slice D1 (L32 N) c1) (.slice D2 (L32 N) c2) := HQ.out.on ((Below.refl _ _).drew)
  go_region_held3 (fun w' => w'.cell? ⟨W.heap.size, 0, none⟩ = some (.slice D n c) ∧ w'.cell? ⟨w1.heap.size, 0, none⟩ = some (.slice D1 (L32 N) c1) ∧ w'.cell? ⟨w2.heap.size, 0, none⟩ = some (.slice D2 (L32 N) c2) ∧ B3 W w' W.heap.size w1.heap.size w2.heap.size (.slice D n c) (.slice D1 (L32 N) c1) (.slice D2 (L32 N) c2))
    (first | exact B3.all (by assumption) | exact B3.all (B3.on (by assumption) ((Below.refl _ _).drew)))
    (first
      | (go_at_call 13; refine (same_yes (n := L32 N) (f := d32 N) (by omega) (HC1.out.below ((Below.refl _ _).drew)) (HC2.out.below ((Below.refl _ _).drew))).mono ?_; rintro e w5 ⟨rfl, hb5⟩; have B5 := B3.on HQd hb5)
      | (go_at_call 31; refine (HT1.out _ B5.below).mono ?_; rintro e w6 ⟨rfl, hb6⟩; have B6 := B3.on B5 hb6)
      | (go_at_call 32; refine (HT2.out _ B6.below).mono ?_; rintro e w7 ⟨rfl, hb7⟩; have B7 := B3.on B6 hb7))
  all_goals
    have HBX := Lib.hid B7
    have HW := Lib.hid (Below.on (Below.on (Below.on ((Below.refl W2.heap.size W2).drew) hb5) hb6) hb7)
    clear q0 q1 q2 HQd HQ B5 B6 B7 hb5 hb6 hb7
    obtain ⟨q0, q1, q2, _⟩ := HBX.out.all
    go_wp2_with fail
    refine (nformat_any (x := N) hN64 rfl (HC1.out.below HW.out)).mono ?_
    rintro e w8 ⟨rfl, hb8⟩
    rw [HBK.out]
    replace HBX := Lib.hid (HBX.out.on hb8)
    clear q0 q1 q2 hb8
    obtain ⟨q0, q1, q2, _⟩ := HBX.out.all
    go_wp2_with fail
    refine (nvalid_is (f := d32 x) hn9 (hX.below HBX.out.below) HV.out).mono ?_
    rintro e w9 ⟨rfl, hb9⟩
    replace HBX := Lib.hid (HBX.out.on hb9)
    clear q0 q1 q2 hb9
    obtain ⟨q0, q1, q2, _⟩ := HBX.out.all
    go_wp2_with fail
    refine (HT1.out _ HBX.out.below).mono ?_
    rintro e w10 ⟨rfl, hb10⟩
    replace HBX := Lib.hid (HBX.out.on hb10)
    clear q0 q1 q2 hb10
    obtain ⟨q0, q1, q2, _⟩ := HBX.out.all
    go_wp2_with fail
    refine (parse_ok (nparse_any (Dc.text x) _ HT64.out) HTE.out).mono ?_
    rintro e w11 ⟨D3, c3, rfl, hc11, hb11⟩
    rw [HTP.out] at hc11 ⊢
    rw [← HX.out] at hc11 ⊢
    have HZ := Lib.hid (Blk.new w11 24 #[.slice D3 n c3])
    have HC3 := Lib.hid (hc11.alloc (.cells #[.slice D3 n c3] 24))
    replace HBX := Lib.hid ((HBX.out.on hb11).on ((Below.refl _ _).alloc (Nat.le_refl _) (.cells #[.slice D3 n c3] 24)))
    clear q0 q1 q2 hb11 hc11
    obtain ⟨q0, q1, q2, _⟩ := HBX.out.all
    have z0 : (w11.alloc (.cells #[.slice D3 n c3] 24)).cell? ⟨w11.heap.size, 0, none⟩ = some (.slice D3 n c3) := HZ.out.cell 0
    go_wp2_with fail
    refine (same_yes (n := n) (f := d32 x) hn9 HC3.out (hX.below HBX.out.below)).mono ?_
    rintro e w12 ⟨rfl, hb12⟩
    replace HBX := Lib.hid (HBX.out.on hb12)
    clear q0 q1 q2 z0 hb12
    go_wp2_with fail
    refine (one_any 7 7 rfl (by omega) (by omega) _).mono ?_
    rintro e w13 ⟨D7, rfl, hc13, hb13⟩
    replace HBX := Lib.hid (HBX.out.on hb13)
    have HC13 := Lib.hid hc13
    clear hb13 hc13
    go_wp2_with fail
    refine (nformat_any (x := 7) (by omega) hl7.out.symm HC13.out).mono ?_
    rintro e w14 ⟨rfl, hb14⟩
    rw [S7.out]
    replace HBX := Lib.hid (HBX.out.on hb14)
    clear hb14
    go_wp2
    go_ret
    exact ⟨rfl, HBX.out.below⟩
set_option maxHeartbeats 4000000 in
set_option maxRecDepth 100000 in
theorem texts_ok_bad (W : World) {D : Option Addr} {n c : Nat} {f : Nat → Nat} (hn9 : n ≤ 9223372036854775807) (hD : Cells W D n (Lm f)) (s : ByteArray) (hs : s.size ≤ maxLen) {N : Nat} (HN : Hid (Dc.pv s s.size = N)) (HE : Hid (Dc.err s = 0)) (HBK : Hid (Dc.text N = s)) (hN64 : L32 N ≤ 64) (HV : Hid (vd n f = false)) (HT : Hid (Texts W D n c ByteArray.empty)) :
    Calls Try.prog 6 #[.agg #[.slice D n c], .string s] W fun e w' => e = .returned (.bool true) ∧ Below W.heap.size W w' := by
  have hb0 := Lib.hid ((Below.refl W.heap.size W).alloc (Nat.le_refl _) (.cells #[.slice D n c] 24))
  have hk0 := Lib.hid (Blk.new W 24 #[.slice D n c])
  have S7 := Lib.hid seven
  have hl7 := Lib.hid (L32_one (k := 7) (by omega) (by omega))
  have HT1 : Hid (∀ w' : World, Below W.heap.size W w' → Calls Try.prog 31 #[.agg #[.slice D n c]] w' fun e w6 => e = .returned (.string (ByteArray.empty)) ∧ Below w'.heap.size w' w6) := Lib.hid fun w' hb => (HT.out w' hb).1
  have HT2 : Hid (∀ w' : World, Below W.heap.size W w' → Calls Try.prog 32 #[.agg #[.slice D n c]] w' fun e w6 => e = .returned (.string (ByteArray.empty)) ∧ Below w'.heap.size w' w6) := Lib.hid fun w' hb => (HT.out w' hb).2
  go_enter Try.func6, Try.ntmps6
  go_wp2_with fail
  refine (parse_ok (nparse_any s _ hs) HE.out).mono ?_
  rintro e w1 ⟨D1, c1, rfl, hc1, hb1⟩
  rw [HN.out] at hc1 ⊢
  have HB1 := Lib.hid ((Below.on hb0.out hb1).alloc (Below.on hb0.out hb1).size (.cells #[.slice D1 (L32 N) c1] 24))
  have HA1 := Lib.hid ((hk0.out.keep hb1).alloc (.cells #[.slice D1 (L32 N) c1] 24))
  have HK1 := Lib.hid (Blk.new w1 24 #[.slice D1 (L32 N) c1])
  have HC1 := Lib.hid (hc1.alloc (.cells #[.slice D1 (L32 N) c1] 24))
  clear hb1 hc1
  go_wp2_with fail
  refine (parse_ok (rparse_any s _ hs) HE.out).mono ?_
  rintro e w2 ⟨D2, c2, rfl, hc2, hb2⟩
  rw [HN.out] at hc2 ⊢
  replace HC1 := Lib.hid ((HC1.out.below hb2).alloc (.cells #[.slice D2 (L32 N) c2] 24))
  have HC2 := Lib.hid (hc2.alloc (.cells #[.slice D2 (L32 N) c2] 24))
  have HB2 := Lib.hid ((Below.on HB1.out hb2).alloc (Below.on HB1.out hb2).size (.cells #[.slice D2 (L32 N) c2] 24))
  have HQ : Hid (B3 W (w2.alloc (.cells #[.slice D2 (L32 N) c2] 24)) W.heap.size w1.heap.size w2.heap.size (.slice D n c) (.slice D1 (L32 N) c1) (.slice D2 (L32 N) c2)) := ⟨HB2.out, (HA1.out.keep hb2).alloc _, (HK1.out.keep hb2).alloc _, Blk.new w2 _ _⟩
  clear hb2 HB1 HA1 HK1
  go_upto_region 3 with (fail)
  generalize w2.alloc (.cells #[.slice D2 (L32 N) c2] 24) = W2 at HC1 HC2 HB2 HQ ⊢
  obtain ⟨q0, q1, q2, _⟩ := HQ.out.all
  have HQd : B3 W W2.drew W.heap.size w1.heap.size w2.heap.size (.slice D n c) (.slice D1 (L32 N) c1) (.slice D2 (L32 N) c2) := HQ.out.on ((Below.refl _ _).drew)
  go_region_held3 (fun w' => w'.cell? ⟨W.heap.size, 0, none⟩ = some (.slice D n c) ∧ w'.cell? ⟨w1.heap.size, 0, none⟩ = some (.slice D1 (L32 N) c1) ∧ w'.cell? ⟨w2.heap.size, 0, none⟩ = some (.slice D2 (L32 N) c2) ∧ B3 W w' W.heap.size w1.heap.size w2.heap.size (.slice D n c) (.slice D1 (L32 N) c1) (.slice D2 (L32 N) c2))
    (first | exact B3.all (by assumption) | exact B3.all (B3.on (by assumption) ((Below.refl _ _).drew)))
    (first
      | (go_at_call 13; refine (same_yes (n := L32 N) (f := d32 N) (by omega) (HC1.out.below ((Below.refl _ _).drew)) (HC2.out.below ((Below.refl _ _).drew))).mono ?_; rintro e w5 ⟨rfl, hb5⟩; have B5 := B3.on HQd hb5)
      | (go_at_call 31; refine (HT1.out _ B5.below).mono ?_; rintro e w6 ⟨rfl, hb6⟩; have B6 := B3.on B5 hb6)
      | (go_at_call 32; refine (HT2.out _ B6.below).mono ?_; rintro e w7 ⟨rfl, hb7⟩; have B7 := B3.on B6 hb7))
  all_goals
    have HBX := Lib.hid B7
    have HW := Lib.hid (Below.on (Below.on (Below.on ((Below.refl W2.heap.size W2).drew) hb5) hb6) hb7)
    clear q0 q1 q2 HQd HQ B5 B6 B7 hb5 hb6 hb7
    obtain ⟨q0, q1, q2, _⟩ := HBX.out.all
    go_wp2_with fail
    refine (nformat_any (x := N) hN64 rfl (HC1.out.below HW.out)).mono ?_
    rintro e w8 ⟨rfl, hb8⟩
    rw [HBK.out]
    replace HBX := Lib.hid (HBX.out.on hb8)
    clear q0 q1 q2 hb8
    obtain ⟨q0, q1, q2, _⟩ := HBX.out.all
    go_wp2_with fail
    refine (nvalid_is (f := f) hn9 (hD.below HBX.out.below) HV.out).mono ?_
    rintro e w9 ⟨rfl, hb9⟩
    replace HBX := Lib.hid (HBX.out.on hb9)
    clear q0 q1 q2 hb9
    go_wp2_with fail
    refine (one_any 7 7 rfl (by omega) (by omega) _).mono ?_
    rintro e w13 ⟨D7, rfl, hc13, hb13⟩
    replace HBX := Lib.hid (HBX.out.on hb13)
    have HC13 := Lib.hid hc13
    clear hb13 hc13
    go_wp2_with fail
    refine (nformat_any (x := 7) (by omega) hl7.out.symm HC13.out).mono ?_
    rintro e w14 ⟨rfl, hb14⟩
    rw [S7.out]
    replace HBX := Lib.hid (HBX.out.on hb14)
    clear hb14
    go_wp2
    go_ret
    exact ⟨rfl, HBX.out.below⟩
set_option maxHeartbeats 4000000 in
set_option maxRecDepth 100000 in
theorem texts_no_good (W : World) {D : Option Addr} {n c : Nat} {f : Nat → Nat} (hn9 : n ≤ 9223372036854775807) (hD : Cells W D n (Lm f)) (s : ByteArray) (hs : s.size ≤ maxLen) {y : Int} (HE : Hid (Dc.err s = y)) (hy : y ≠ 0) {x : Nat} (hn : n ≤ 64) (HX : Hid (n = L32 x)) (hX : Cells W D n (Lm (d32 x))) (HV : Hid (vd n (d32 x) = true)) (HT : Hid (Texts W D n c (Dc.text x))) (HT64 : Hid ((Dc.text x).size ≤ maxLen)) (HTE : Hid (Dc.err (Dc.text x) = 0)) (HTP : Hid (Dc.pv (Dc.text x) (Dc.text x).size = x)) :
    Calls Try.prog 6 #[.agg #[.slice D n c], .string s] W fun e w' => e = .returned (.bool true) ∧ Below W.heap.size W w' := by
  have hb0 := Lib.hid ((Below.refl W.heap.size W).alloc (Nat.le_refl _) (.cells #[.slice D n c] 24))
  have hk0 := Lib.hid (Blk.new W 24 #[.slice D n c])
  have S7 := Lib.hid seven
  have hl7 := Lib.hid (L32_one (k := 7) (by omega) (by omega))
  have HT1 : Hid (∀ w' : World, Below W.heap.size W w' → Calls Try.prog 31 #[.agg #[.slice D n c]] w' fun e w6 => e = .returned (.string (Dc.text x)) ∧ Below w'.heap.size w' w6) := Lib.hid fun w' hb => (HT.out w' hb).1
  have HT2 : Hid (∀ w' : World, Below W.heap.size W w' → Calls Try.prog 32 #[.agg #[.slice D n c]] w' fun e w6 => e = .returned (.string (Dc.text x)) ∧ Below w'.heap.size w' w6) := Lib.hid fun w' hb => (HT.out w' hb).2
  have hyn : (y == 0) = false := by simp; exact hy
  go_enter Try.func6, Try.ntmps6
  go_wp2_with fail
  refine (parse_no (nparse_any s _ hs) HE.out hy).mono ?_
  rintro e w1 ⟨rfl, hb1⟩
  have HB1 := Lib.hid ((Below.on hb0.out hb1).alloc (Below.on hb0.out hb1).size (.cells #[.slice none 0 0] 24))
  have HA1 := Lib.hid ((hk0.out.keep hb1).alloc (.cells #[.slice none 0 0] 24))
  have HK1 := Lib.hid (Blk.new w1 24 #[.slice none 0 0])
  clear hb1
  go_wp2_with fail
  refine (parse_no (rparse_any s _ hs) HE.out hy).mono ?_
  rintro e w2 ⟨rfl, hb2⟩
  have HB2 := Lib.hid ((Below.on HB1.out hb2).alloc (Below.on HB1.out hb2).size (.cells #[.slice none 0 0] 24))
  have HQ : Hid (B3 W (w2.alloc (.cells #[.slice none 0 0] 24)) W.heap.size w1.heap.size w2.heap.size (.slice D n c) (.slice none 0 0) (.slice none 0 0)) := ⟨HB2.out, (HA1.out.keep hb2).alloc _, (HK1.out.keep hb2).alloc _, Blk.new w2 _ _⟩
  clear hb2 HB1 HA1 HK1
  go_upto_region 3 with (fail)
  generalize w2.alloc (.cells #[.slice none 0 0] 24) = W2 at HB2 HQ ⊢
  obtain ⟨q0, q1, q2, _⟩ := HQ.out.all
  have HQd : B3 W W2.drew W.heap.size w1.heap.size w2.heap.size (.slice D n c) (.slice none 0 0) (.slice none 0 0) := HQ.out.on ((Below.refl _ _).drew)
  go_region_held3 (fun w' => w'.cell? ⟨W.heap.size, 0, none⟩ = some (.slice D n c) ∧ w'.cell? ⟨w1.heap.size, 0, none⟩ = some (.slice none 0 0) ∧ w'.cell? ⟨w2.heap.size, 0, none⟩ = some (.slice none 0 0) ∧ B3 W w' W.heap.size w1.heap.size w2.heap.size (.slice D n c) (.slice none 0 0) (.slice none 0 0))
    (first | exact B3.all (by assumption) | exact B3.all (B3.on (by assumption) ((Below.refl _ _).drew)))
    (first
      | (go_at_call 13; refine (same_yes (n := 0) (f := fun _ => 0) (by omega) Cells.nil Cells.nil).mono ?_; rintro e w5 ⟨rfl, hb5⟩; have B5 := B3.on HQd hb5)
      | (go_at_call 31; refine (HT1.out _ B5.below).mono ?_; rintro e w6 ⟨rfl, hb6⟩; have B6 := B3.on B5 hb6)
      | (go_at_call 32; refine (HT2.out _ B6.below).mono ?_; rintro e w7 ⟨rfl, hb7⟩; have B7 := B3.on B6 hb7))
  all_goals
    have HBX := Lib.hid B7
    have HW := Lib.hid (Below.on (Below.on (Below.on ((Below.refl W2.heap.size W2).drew) hb5) hb6) hb7)
    clear q0 q1 q2 HQd HQ B5 B6 B7 hb5 hb6 hb7
    obtain ⟨q0, q1, q2, _⟩ := HBX.out.all
    go_wp2_with fail
    refine (nvalid_is (f := d32 x) hn9 (hX.below HBX.out.below) HV.out).mono ?_
    rintro e w9 ⟨rfl, hb9⟩
    replace HBX := Lib.hid (HBX.out.on hb9)
    clear q0 q1 q2 hb9
    obtain ⟨q0, q1, q2, _⟩ := HBX.out.all
    go_wp2_with fail
    refine (HT1.out _ HBX.out.below).mono ?_
    rintro e w10 ⟨rfl, hb10⟩
    replace HBX := Lib.hid (HBX.out.on hb10)
    clear q0 q1 q2 hb10
    obtain ⟨q0, q1, q2, _⟩ := HBX.out.all
    go_wp2_with fail
    refine (parse_ok (nparse_any (Dc.text x) _ HT64.out) HTE.out).mono ?_
    rintro e w11 ⟨D3, c3, rfl, hc11, hb11⟩
    rw [HTP.out] at hc11 ⊢
    rw [← HX.out] at hc11 ⊢
    have HZ := Lib.hid (Blk.new w11 24 #[.slice D3 n c3])
    have HC3 := Lib.hid (hc11.alloc (.cells #[.slice D3 n c3] 24))
    replace HBX := Lib.hid ((HBX.out.on hb11).on ((Below.refl _ _).alloc (Nat.le_refl _) (.cells #[.slice D3 n c3] 24)))
    clear q0 q1 q2 hb11 hc11
    obtain ⟨q0, q1, q2, _⟩ := HBX.out.all
    have z0 : (w11.alloc (.cells #[.slice D3 n c3] 24)).cell? ⟨w11.heap.size, 0, none⟩ = some (.slice D3 n c3) := HZ.out.cell 0
    go_wp2_with fail
    refine (same_yes (n := n) (f := d32 x) hn9 HC3.out (hX.below HBX.out.below)).mono ?_
    rintro e w12 ⟨rfl, hb12⟩
    replace HBX := Lib.hid (HBX.out.on hb12)
    clear q0 q1 q2 z0 hb12
    go_wp2_with fail
    refine (one_any 7 7 rfl (by omega) (by omega) _).mono ?_
    rintro e w13 ⟨D7, rfl, hc13, hb13⟩
    replace HBX := Lib.hid (HBX.out.on hb13)
    have HC13 := Lib.hid hc13
    clear hb13 hc13
    go_wp2_with fail
    refine (nformat_any (x := 7) (by omega) hl7.out.symm HC13.out).mono ?_
    rintro e w14 ⟨rfl, hb14⟩
    rw [S7.out]
    replace HBX := Lib.hid (HBX.out.on hb14)
    clear hb14
    go_wp2
    go_ret
    exact ⟨rfl, HBX.out.below⟩
set_option maxHeartbeats 4000000 in
set_option maxRecDepth 100000 in
theorem texts_no_bad (W : World) {D : Option Addr} {n c : Nat} {f : Nat → Nat} (hn9 : n ≤ 9223372036854775807) (hD : Cells W D n (Lm f)) (s : ByteArray) (hs : s.size ≤ maxLen) {y : Int} (HE : Hid (Dc.err s = y)) (hy : y ≠ 0) (HV : Hid (vd n f = false)) (HT : Hid (Texts W D n c ByteArray.empty)) :
    Calls Try.prog 6 #[.agg #[.slice D n c], .string s] W fun e w' => e = .returned (.bool true) ∧ Below W.heap.size W w' := by
  have hb0 := Lib.hid ((Below.refl W.heap.size W).alloc (Nat.le_refl _) (.cells #[.slice D n c] 24))
  have hk0 := Lib.hid (Blk.new W 24 #[.slice D n c])
  have S7 := Lib.hid seven
  have hl7 := Lib.hid (L32_one (k := 7) (by omega) (by omega))
  have HT1 : Hid (∀ w' : World, Below W.heap.size W w' → Calls Try.prog 31 #[.agg #[.slice D n c]] w' fun e w6 => e = .returned (.string (ByteArray.empty)) ∧ Below w'.heap.size w' w6) := Lib.hid fun w' hb => (HT.out w' hb).1
  have HT2 : Hid (∀ w' : World, Below W.heap.size W w' → Calls Try.prog 32 #[.agg #[.slice D n c]] w' fun e w6 => e = .returned (.string (ByteArray.empty)) ∧ Below w'.heap.size w' w6) := Lib.hid fun w' hb => (HT.out w' hb).2
  have hyn : (y == 0) = false := by simp; exact hy
  go_enter Try.func6, Try.ntmps6
  go_wp2_with fail
  refine (parse_no (nparse_any s _ hs) HE.out hy).mono ?_
  rintro e w1 ⟨rfl, hb1⟩
  have HB1 := Lib.hid ((Below.on hb0.out hb1).alloc (Below.on hb0.out hb1).size (.cells #[.slice none 0 0] 24))
  have HA1 := Lib.hid ((hk0.out.keep hb1).alloc (.cells #[.slice none 0 0] 24))
  have HK1 := Lib.hid (Blk.new w1 24 #[.slice none 0 0])
  clear hb1
  go_wp2_with fail
  refine (parse_no (rparse_any s _ hs) HE.out hy).mono ?_
  rintro e w2 ⟨rfl, hb2⟩
  have HB2 := Lib.hid ((Below.on HB1.out hb2).alloc (Below.on HB1.out hb2).size (.cells #[.slice none 0 0] 24))
  have HQ : Hid (B3 W (w2.alloc (.cells #[.slice none 0 0] 24)) W.heap.size w1.heap.size w2.heap.size (.slice D n c) (.slice none 0 0) (.slice none 0 0)) := ⟨HB2.out, (HA1.out.keep hb2).alloc _, (HK1.out.keep hb2).alloc _, Blk.new w2 _ _⟩
  clear hb2 HB1 HA1 HK1
  go_upto_region 3 with (fail)
  generalize w2.alloc (.cells #[.slice none 0 0] 24) = W2 at HB2 HQ ⊢
  obtain ⟨q0, q1, q2, _⟩ := HQ.out.all
  have HQd : B3 W W2.drew W.heap.size w1.heap.size w2.heap.size (.slice D n c) (.slice none 0 0) (.slice none 0 0) := HQ.out.on ((Below.refl _ _).drew)
  go_region_held3 (fun w' => w'.cell? ⟨W.heap.size, 0, none⟩ = some (.slice D n c) ∧ w'.cell? ⟨w1.heap.size, 0, none⟩ = some (.slice none 0 0) ∧ w'.cell? ⟨w2.heap.size, 0, none⟩ = some (.slice none 0 0) ∧ B3 W w' W.heap.size w1.heap.size w2.heap.size (.slice D n c) (.slice none 0 0) (.slice none 0 0))
    (first | exact B3.all (by assumption) | exact B3.all (B3.on (by assumption) ((Below.refl _ _).drew)))
    (first
      | (go_at_call 13; refine (same_yes (n := 0) (f := fun _ => 0) (by omega) Cells.nil Cells.nil).mono ?_; rintro e w5 ⟨rfl, hb5⟩; have B5 := B3.on HQd hb5)
      | (go_at_call 31; refine (HT1.out _ B5.below).mono ?_; rintro e w6 ⟨rfl, hb6⟩; have B6 := B3.on B5 hb6)
      | (go_at_call 32; refine (HT2.out _ B6.below).mono ?_; rintro e w7 ⟨rfl, hb7⟩; have B7 := B3.on B6 hb7))
  all_goals
    have HBX := Lib.hid B7
    have HW := Lib.hid (Below.on (Below.on (Below.on ((Below.refl W2.heap.size W2).drew) hb5) hb6) hb7)
    clear q0 q1 q2 HQd HQ B5 B6 B7 hb5 hb6 hb7
    obtain ⟨q0, q1, q2, _⟩ := HBX.out.all
    go_wp2_with fail
    refine (nvalid_is (f := f) hn9 (hD.below HBX.out.below) HV.out).mono ?_
    rintro e w9 ⟨rfl, hb9⟩
    replace HBX := Lib.hid (HBX.out.on hb9)
    clear q0 q1 q2 hb9
    go_wp2_with fail
    refine (one_any 7 7 rfl (by omega) (by omega) _).mono ?_
    rintro e w13 ⟨D7, rfl, hc13, hb13⟩
    replace HBX := Lib.hid (HBX.out.on hb13)
    have HC13 := Lib.hid hc13
    clear hb13 hc13
    go_wp2_with fail
    refine (nformat_any (x := 7) (by omega) hl7.out.symm HC13.out).mono ?_
    rintro e w14 ⟨rfl, hb14⟩
    rw [S7.out]
    replace HBX := Lib.hid (HBX.out.on hb14)
    clear hb14
    go_wp2
    go_ret
    exact ⟨rfl, HBX.out.below⟩
theorem natTexts_walk (W : World) {D : Option Addr} {n c : Nat} {f : Nat → Nat} (hnc : n ≤ c) (hc : c ≤ maxLen) (hD : Cells W D n (Lm f)) (hf : ∀ j, j < n → f j < 4294967296) (s : ByteArray) (hs : s.size ≤ maxLen) :
    Calls Try.prog 6 #[natv D n c, .string s] W fun e w' => e = .returned (.bool true) ∧ Below W.heap.size W w' := by
  have hn9 : n ≤ 9223372036854775807 := by unfold maxLen at hc; omega
  unfold natv
  by_cases he : Dc.err s = 0
  · have hN64 := (Dc.err_zero he).2.2.2.2
    cases hv : vd n f with
    | true =>
      obtain ⟨hn, hLx, hX⟩ := num_of hD hf hv
      have h64 : L32 (v32 f n) ≤ 64 := by rw [← hLx]; exact hn
      have hts : (Dc.text (v32 f n)).size ≤ maxLen := by
        have := Dc.len_le h64
        rw [Dc.text_size]; unfold maxLen; split <;> omega
      exact texts_ok_good W hn9 hD s hs (Lib.hid rfl) (Lib.hid he) (Lib.hid (Dc.back he)) hN64 hn (Lib.hid hLx) hX (Lib.hid (vd_true hn hLx)) (Lib.hid (texts_good hn hLx hX)) (Lib.hid hts) (Lib.hid (Dc.err_text h64)) (Lib.hid (Dc.pv_text _))
    | false => exact texts_ok_bad W hn9 hD s hs (Lib.hid rfl) (Lib.hid he) (Lib.hid (Dc.back he)) hN64 (Lib.hid hv) (Lib.hid (texts_bad hn9 hD hv))
  · cases hv : vd n f with
    | true =>
      obtain ⟨hn, hLx, hX⟩ := num_of hD hf hv
      have h64 : L32 (v32 f n) ≤ 64 := by rw [← hLx]; exact hn
      have hts : (Dc.text (v32 f n)).size ≤ maxLen := by
        have := Dc.len_le h64
        rw [Dc.text_size]; unfold maxLen; split <;> omega
      exact texts_no_good W hn9 hD s hs (Lib.hid rfl) he hn (Lib.hid hLx) hX (Lib.hid (vd_true hn hLx)) (Lib.hid (texts_good hn hLx hX)) (Lib.hid hts) (Lib.hid (Dc.err_text h64)) (Lib.hid (Dc.pv_text _))
    | false => exact texts_no_bad W hn9 hD s hs (Lib.hid rfl) he (Lib.hid hv) (Lib.hid (texts_bad hn9 hD hv))
end Go.Proofs.Ythjbkadhgcjnaaa
