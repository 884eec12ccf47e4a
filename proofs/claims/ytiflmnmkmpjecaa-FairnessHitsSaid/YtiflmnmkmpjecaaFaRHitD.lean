/- The walk of the reference's HitsChance (55): the digit games. -/
import Derived.Test.YtiflmnmkmpjecaaG12
import Derived.Test.YtiflmnmkmpjecaaG5
set_option linter.unusedVariables false
namespace Go.Proofs.Ytiflmnmkmpjecaa
open Go.RowKit
namespace Fa
open Fr
set_option maxHeartbeats 8000000 in
set_option maxRecDepth 100000 in
theorem rhits_digit (w : World) {m o h d x y : Nat} (ho1 : 1 ≤ o) (ho : o ≤ 10) (hm : m ≤ 10) (hh : h ≤ m) (hd : d = m - h) (hx : x = cz m h * (o - 1) ^ d) (hy : y = o ^ m) :
    Calls Try.prog 27 #[.agg (gc 2 m o), .int .i64 (h : Int)] w fun e w' => Res w.heap.size w' e (x / Nat.gcd x y) (y / Nat.gcd x y) ∧ Below w.heap.size w w' := by
  have BS0 := Lib.hid (boxesG w (gc 2 m o))
  obtain ⟨p, hp⟩ : ∃ p, p = o - 1 := ⟨_, rfl⟩
  have hw1 : IntKind.i64.wrap ((o : Int) - 1) = (p : Int) := by rw [IntWalk.i64_in _ (by omega)]; omega
  have hw3 : IntKind.i64.wrap ((m : Int) - (h : Int)) = (d : Int) := by rw [IntWalk.i64_in _ (by omega)]; omega
  have k1 := fun w' => rch_any w' (n := m) (by omega) (h : Int)
  have HC17 := cz_len (n := m) (by omega) (h : Int)
  obtain ⟨X, hX⟩ : ∃ c, c = cz m h := ⟨_, rfl⟩
  rw [← hX] at hx k1 HC17
  rw [← hp] at hx
  have hd10 : d ≤ 10 := by omega
  have hp10 : p ≤ 10 := by omega
  have HP64 := Lib.hid (small64 hp10)
  have HO64 := Lib.hid (small64 ho)
  have HPD := Lib.hid (pow_small (k := 2) hp10 hd10 (by omega))
  have HOM := Lib.hid (pow_small (k := 2) ho hm (by omega))
  obtain ⟨Y, hY⟩ : ∃ c, c = p ^ d := ⟨_, rfl⟩
  rw [← hY] at hx HPD
  have HX := Lib.hid (show L32 X ≤ 64 by omega)
  have HY := Lib.hid (show L32 Y ≤ 64 from Nat.le_trans HPD.out (by omega))
  have HX34 := show L32 x ≤ 34 by rw [hx]; exact Nat.le_trans (prod_len HC17 HPD.out) (by omega)
  have HX64 := Lib.hid (show L32 x ≤ 64 by omega)
  have HY64 := Lib.hid (show L32 y ≤ 64 by rw [hy]; exact Nat.le_trans HOM.out (by omega))
  have HPE := Lib.hid hx
  have HP := Lib.hid (show L32 (X * Y) ≤ 64 by rw [← hx]; omega)
  have HY0 := Lib.hid (show 0 < y by rw [hy]; exact Nat.pow_pos (by omega))
  have HYE := Lib.hid hy
  have HYP := Lib.hid hY
  have K1 := Lib.hid k1
  have HOO := Lib.hid (show o ≤ 4294967295 by omega)
  have HPP := Lib.hid (show p ≤ 4294967295 by omega)
  have Hm9 := Lib.hid (show m ≤ 64 by omega)
  have Hd9 := Lib.hid (show d ≤ 64 by omega)
  have HOM2 : Hid (L32 (o ^ m) ≤ 2) := HOM
  have HPD2 : Hid (L32 (p ^ d) ≤ 2) := Lib.hid (by rw [← hY]; exact HPD.out)
  obtain ⟨qa, hqa⟩ : ∃ v, v = x / Nat.gcd x y := ⟨_, rfl⟩
  obtain ⟨qb, hqb⟩ : ∃ v, v = y / Nat.gcd x y := ⟨_, rfl⟩
  rw [← hqa, ← hqb]
  have HQA := Lib.hid hqa
  have HQB := Lib.hid hqb
  have g1 : ((h : Int) < 0) = False := eq_false (by omega)
  have g2 : ((m : Int) < (h : Int)) = False := eq_false (by omega)
  have g3 : ((o : Int) < 1) = False := eq_false (by omega)
  have g4 : ((10 : Int) < (o : Int)) = False := eq_false (by omega)
  have g5 : ((10 : Int) < (m : Int)) = False := eq_false (by omega)
  have g6 : ((m : Int) < 0) = False := eq_false (by omega)
  clear k1 HC17 hx hy hqa hqb hX hp hd ho ho1 hm hh hd10 hp10 hY HX34
  unfold gc at BS0 ⊢
  go_enter Try.func27, Try.ntmps27
  go_upto_region 1 with (fail)
  obtain ⟨wa, hwa⟩ : ∃ wa, wa = ((w.alloc (.cells #[.string ⟨#[]⟩, .int .i64 2, .int .i64 0, .int .i64 (m : Int), .int .i64 (o : Int), .int .i64 0, .int .i64 0, .int .i64 0, .int .i64 0, .int .i64 0, .int .i64 0, .int .i64 0, .int .i64 0, .int .i64 0, .int .i64 0, .int .i64 0, .int .i64 0, .int .i64 0, .int .i64 0, .int .i64 0, .slice none 0 0, .slice none 0 0] TG)).alloc (.cells #[.slice none 0 0, .slice none 0 0] TF)) := ⟨_, rfl⟩
  change Code.wp _ _ _ _ ((w.alloc (.cells #[.string ⟨#[]⟩, .int .i64 2, .int .i64 0, .int .i64 (m : Int), .int .i64 (o : Int), .int .i64 0, .int .i64 0, .int .i64 0, .int .i64 0, .int .i64 0, .int .i64 0, .int .i64 0, .int .i64 0, .int .i64 0, .int .i64 0, .int .i64 0, .int .i64 0, .int .i64 0, .int .i64 0, .int .i64 0, .slice none 0 0, .slice none 0 0] TG)).alloc (.cells #[.slice none 0 0, .slice none 0 0] TF))
  rw [← hwa] at BS0 ⊢
  obtain ⟨gb, hgb⟩ : ∃ b, b = w.heap.size := ⟨_, rfl⟩
  obtain ⟨z, hz⟩ : ∃ b, b = w.heap.size + 1 := ⟨_, rfl⟩
  have hzw : w.heap.size ≤ z := by omega
  have hgz : gb ≠ z := by omega
  have bs0 := BS0.out
  rw [← hgb, ← show z = gb + 1 by omega] at bs0
  rw [show (Value.pointer (some ⟨w.heap.size, 0, none⟩)) = .pointer (some ⟨gb, 0, none⟩) by rw [hgb], show (Value.pointer (some ⟨w.heap.size + 1, 0, none⟩)) = .pointer (some ⟨z, 0, none⟩) by rw [hz]]
  have BSA := Lib.hid bs0
  clear hwa BS0
  obtain ⟨_, lg, kg⟩ := bs0.get (.tail _ (.head _))
  have q1 : wa.cell? ⟨gb, 1, none⟩ = some (.int .i64 2) := kg.cell 1
  have q3 : wa.cell? ⟨gb, 3, none⟩ = some (.int .i64 (m : Int)) := kg.cell 3
  have q4 : wa.cell? ⟨gb, 4, none⟩ = some (.int .i64 (o : Int)) := kg.cell 4
  clear kg bs0 hgb hz
  have HOF : Hid (∀ w', Below wa.heap.size wa w' → Calls Try.prog 42 #[.int .i64 (p : Int)] w' fun e w'' => ∃ (D : Option Addr) (l c : Nat), e = .returned (.agg #[.slice D l c]) ∧ Hid (l = L32 (p)) ∧ Cells w'' D l (Lm (d32 (p))) ∧ Fresh w'.heap.size D ∧ Below w'.heap.size w' w'' ∧ Below wa.heap.size wa w'') := Lib.hid fun w' hw => by
    refine (rof55_any w' (n := p) (Nat.le_trans HPP.out (by decide))).mono ?_
    rintro e w'' ⟨⟨D, l, c, rfl, h1, h2, h3⟩, hb⟩
    exact ⟨D, l, c, rfl, Lib.hid h1, h2, h3, hb, Below.on hw hb⟩
  have HPW : Hid (∀ w' D1 l1 c1, Hid (l1 = L32 p) → Cells w' D1 l1 (Lm (d32 p)) → Below wa.heap.size wa w' → Calls Try.prog 59 #[.agg #[.slice D1 l1 c1], .int .i64 (d : Int)] w' fun e w'' => ∃ (D : Option Addr) (l c : Nat), e = .returned (.tuple #[.agg #[.slice D l c], .int .i64 0]) ∧ Hid (l = L32 (p ^ d)) ∧ Cells w'' D l (Lm (d32 (p ^ d))) ∧ Fresh w'.heap.size D ∧ Below w'.heap.size w' w'' ∧ Below wa.heap.size wa w'') := Lib.hid fun w' D1 l1 c1 hl hc hw => by
    refine (rpower_any (a := p) (by rw [hl.out]; exact HP64.out) hl.out hc (by have := Hd9.out; omega)).mono ?_
    rintro e w'' ⟨⟨_, D, l, c, rfl, h1, h2, h3⟩ | ⟨h9, _⟩, hb⟩
    · exact ⟨D, l, c, rfl, Lib.hid h1, h2, h3, hb, Below.on hw hb⟩
    · exact absurd h9 (by have := HPD2.out; omega)
  have HALL : Hid (∀ w', Below wa.heap.size wa w' → w'.cell? ⟨gb, 3, none⟩ = some (.int .i64 (m : Int)) ∧ w'.cell? ⟨gb, 4, none⟩ = some (.int .i64 (o : Int)) ∧ Below wa.heap.size wa w') := Lib.hid fun w' hw => ⟨((BSA.out.on hw).get (.tail _ (.head _))).2.2.cell 3, ((BSA.out.on hw).get (.tail _ (.head _))).2.2.cell 4, hw⟩
  have A0 : Below wa.heap.size wa wa.drew := (Below.refl _ _).drew
  go_upto_region 14 with (fail)
  go_cut [7, 8] (fun s7 s8 wx => ∃ (b : Nat) (P : Option Addr) (lp kp : Nat), s7 = .pointer (some ⟨b, 0, none⟩) ∧ s8 = .int .i64 0 ∧ Hid (Blk wx b TN #[.slice P lp kp]) ∧ wa.heap.size ≤ b ∧ Hid (lp = L32 (p ^ d)) ∧ Hid (Cells wx P lp (Lm (d32 (p ^ d)))) ∧ Hid (Below wa.heap.size wa wx))
  case first =>
    go_region_held3 (fun w' => w'.cell? ⟨gb, 3, none⟩ = some (.int .i64 (m : Int)) ∧ w'.cell? ⟨gb, 4, none⟩ = some (.int .i64 (o : Int)) ∧ Below wa.heap.size wa w')
      ((refine HALL.out _ ?_; repeat' (first | exact (by assumption) | exact Below.refl _ _ | refine bl_alloc ?_ _ | refine bse ?_ (by first | omega | (simp; done) | (simp; omega)) _ _ | refine Below.drew ?_)))
      (first
        | (go_at_call 42; (with_reducible refine (HOF.out _ ?_).mono ?_); (first | assumption | exact bl_alloc (by assumption) _); rintro e5 w5 ⟨D5, l5, c5, rfl, hl5, hc5, hf5, hb5, t5⟩; obtain ⟨bc5, bf5⟩ := bcell hb5; have s5 := t5.size)
        | (go_at_call 59; (with_reducible refine (HPW.out _ _ _ _ ?_ ?_ ?_).mono ?_); (first | assumption); (first | exact hc5 | exact hc5.alloc _); (first | assumption | exact bl_alloc (by assumption) _); rintro e6 w6 ⟨D6, l6, c6, rfl, hl6, hc6, hf6, hb6, t6⟩; obtain ⟨bc6, bf6⟩ := bcell hb6; have k56 : Below w5.heap.size w5 w6 := (by first | exact hb6 | exact bl_on (bl_alloc (Below.refl _ _) _) hb6); obtain ⟨bc56, bf56⟩ := bcell (bl_on hb5 k56); have s6 := t6.size)
        | fail)
    all_goals
      go_wp2_with fail
      go_meet
      case rel =>
        first
          | exact ⟨_, D6, l6, c6, rfl, rfl, Lib.hid (Blk.new w6 _ _), s6, hl6, Lib.hid (hc6.alloc _), Lib.hid (bl_alloc t6 _)⟩
          | exact ⟨_, D6, l6, c6, rfl, rfl, Lib.hid (((Blk.new w5 _ _).keep hb6).set_ 0 _), s5, hl6, Lib.hid (hc6.set_ hf6 (by simp) _ _), Lib.hid (bse t6 s5 _ _)⟩
          | exact ⟨_, D6, l6, c6, rfl, rfl, Lib.hid ((((Blk.new wa.drew _ _).keep hb5).keep hb6).set_ 0 _), Nat.le_refl _, hl6, Lib.hid (hc6.set_ hf6 (by have h1 := hb5.size; simp at h1; omega) _ _), Lib.hid (bse t6 (Nat.le_refl _) _ _)⟩
  clear HOF HPW HALL A0
  obtain ⟨bA, DA, lA, cA, rfl, rfl, KBA, hbA, HLA, HCA, BWA⟩ := hcut
  rw [← HYP.out] at HLA HCA
  have BSB := Lib.hid (BSA.out.on BWA.out)
  have HZA := Lib.hid (show z < bA from Nat.lt_of_lt_of_le (BSA.out.get (.head _)).2.1 hbA)
  clear BSA BWA hbA q1 q3 q4 lg
  rename World => wb
  have HOF : Hid (∀ w', Below wb.heap.size wb w' → Calls Try.prog 42 #[.int .i64 (o : Int)] w' fun e w'' => ∃ (D : Option Addr) (l c : Nat), e = .returned (.agg #[.slice D l c]) ∧ Hid (l = L32 (o)) ∧ Cells w'' D l (Lm (d32 (o))) ∧ Fresh w'.heap.size D ∧ Below w'.heap.size w' w'' ∧ Below wb.heap.size wb w'') := Lib.hid fun w' hw => by
    refine (rof55_any w' (n := o) (Nat.le_trans HOO.out (by decide))).mono ?_
    rintro e w'' ⟨⟨D, l, c, rfl, h1, h2, h3⟩, hb⟩
    exact ⟨D, l, c, rfl, Lib.hid h1, h2, h3, hb, Below.on hw hb⟩
  have HPW : Hid (∀ w' D1 l1 c1, Hid (l1 = L32 o) → Cells w' D1 l1 (Lm (d32 o)) → Below wb.heap.size wb w' → Calls Try.prog 59 #[.agg #[.slice D1 l1 c1], .int .i64 (m : Int)] w' fun e w'' => ∃ (D : Option Addr) (l c : Nat), e = .returned (.tuple #[.agg #[.slice D l c], .int .i64 0]) ∧ Hid (l = L32 (o ^ m)) ∧ Cells w'' D l (Lm (d32 (o ^ m))) ∧ Fresh w'.heap.size D ∧ Below w'.heap.size w' w'' ∧ Below wb.heap.size wb w'') := Lib.hid fun w' D1 l1 c1 hl hc hw => by
    refine (rpower_any (a := o) (by rw [hl.out]; exact HO64.out) hl.out hc (by have := Hm9.out; omega)).mono ?_
    rintro e w'' ⟨⟨_, D, l, c, rfl, h1, h2, h3⟩ | ⟨h9, _⟩, hb⟩
    · exact ⟨D, l, c, rfl, Lib.hid h1, h2, h3, hb, Below.on hw hb⟩
    · exact absurd h9 (by have := HOM2.out; omega)
  have HALL : Hid (∀ w', Below wb.heap.size wb w' → w'.cell? ⟨gb, 3, none⟩ = some (.int .i64 (m : Int)) ∧ w'.cell? ⟨gb, 4, none⟩ = some (.int .i64 (o : Int)) ∧ Below wb.heap.size wb w') := Lib.hid fun w' hw => ⟨((BSB.out.on hw).get (.tail _ (.head _))).2.2.cell 3, ((BSB.out.on hw).get (.tail _ (.head _))).2.2.cell 4, hw⟩
  have A0 : Below wb.heap.size wb wb.drew := (Below.refl _ _).drew
  go_upto_region 15 with (fail)
  go_cut [9, 10] (fun s7 s8 wx => ∃ (b : Nat) (P : Option Addr) (lp kp : Nat), s7 = .pointer (some ⟨b, 0, none⟩) ∧ s8 = .int .i64 0 ∧ Hid (Blk wx b TN #[.slice P lp kp]) ∧ wb.heap.size ≤ b ∧ Hid (lp = L32 (o ^ m)) ∧ Hid (Cells wx P lp (Lm (d32 (o ^ m)))) ∧ Hid (Below wb.heap.size wb wx))
  case first =>
    go_region_held3 (fun w' => w'.cell? ⟨gb, 3, none⟩ = some (.int .i64 (m : Int)) ∧ w'.cell? ⟨gb, 4, none⟩ = some (.int .i64 (o : Int)) ∧ Below wb.heap.size wb w')
      ((refine HALL.out _ ?_; repeat' (first | exact (by assumption) | exact Below.refl _ _ | refine bl_alloc ?_ _ | refine bse ?_ (by first | omega | (simp; done) | (simp; omega)) _ _ | refine Below.drew ?_)))
      (first
        | (go_at_call 42; (with_reducible refine (HOF.out _ ?_).mono ?_); (first | assumption | exact bl_alloc (by assumption) _); rintro e5 w5 ⟨D5, l5, c5, rfl, hl5, hc5, hf5, hb5, t5⟩; obtain ⟨bc5, bf5⟩ := bcell hb5; have s5 := t5.size)
        | (go_at_call 59; (with_reducible refine (HPW.out _ _ _ _ ?_ ?_ ?_).mono ?_); (first | assumption); (first | exact hc5 | exact hc5.alloc _); (first | assumption | exact bl_alloc (by assumption) _); rintro e6 w6 ⟨D6, l6, c6, rfl, hl6, hc6, hf6, hb6, t6⟩; obtain ⟨bc6, bf6⟩ := bcell hb6; have k56 : Below w5.heap.size w5 w6 := (by first | exact hb6 | exact bl_on (bl_alloc (Below.refl _ _) _) hb6); obtain ⟨bc56, bf56⟩ := bcell (bl_on hb5 k56); have s6 := t6.size)
        | fail)
    all_goals
      go_wp2_with fail
      go_meet
      case rel =>
        first
          | exact ⟨_, D6, l6, c6, rfl, rfl, Lib.hid (Blk.new w6 _ _), s6, hl6, Lib.hid (hc6.alloc _), Lib.hid (bl_alloc t6 _)⟩
          | exact ⟨_, D6, l6, c6, rfl, rfl, Lib.hid (((Blk.new w5 _ _).keep hb6).set_ 0 _), s5, hl6, Lib.hid (hc6.set_ hf6 (by simp) _ _), Lib.hid (bse t6 s5 _ _)⟩
          | exact ⟨_, D6, l6, c6, rfl, rfl, Lib.hid ((((Blk.new wb.drew _ _).keep hb5).keep hb6).set_ 0 _), Nat.le_refl _, hl6, Lib.hid (hc6.set_ hf6 (by have h1 := hb5.size; simp at h1; omega) _ _), Lib.hid (bse t6 (Nat.le_refl _) _ _)⟩
  clear HOF HPW HALL A0
  obtain ⟨bB, DB, lB, cB, rfl, rfl, KBB, hbB, HLB, HCB, BWB⟩ := hcut
  rw [← HYE.out] at HLB HCB
  have BSC := Lib.hid (BSB.out.on BWB.out)
  have HZB := Lib.hid (show z < bB from Nat.lt_of_lt_of_le (BSB.out.get (.head _)).2.1 hbB)
  have KA := Lib.hid (KBA.out.keep BWB.out)
  have HCA2 := Lib.hid (HCA.out.below BWB.out)
  clear BSB BWB hbB KBA HCA
  rename World => wc
  have nA : bA ≠ z := by have := HZA.out; omega
  have nB : bB ≠ z := by have := HZB.out; omega
  have hca0 := HCA2.out
  have hcb0 := HCB.out
  have HC1 : Hid (∀ w', Below wc.heap.size wc w' → Calls Try.prog 61 #[.int .i64 (m : Int), .int .i64 (h : Int)] w' fun e w'' => ∃ (D : Option Addr) (l c : Nat), e = .returned (.agg #[.slice D l c]) ∧ Hid (l = L32 (X)) ∧ Cells w'' D l (Lm (d32 (X))) ∧ Fresh w'.heap.size D ∧ Below w'.heap.size w' w'' ∧ Below wc.heap.size wc w'') := Lib.hid fun w' hw => by
    refine (K1.out w').mono ?_
    rintro e w'' ⟨⟨D, l, c, rfl, h1, h2, h3⟩, hb⟩
    exact ⟨D, l, c, rfl, Lib.hid h1, h2, h3, hb, Below.on hw hb⟩
  have HMU : Hid (∀ w' D1 l1 c1 D2 l2 c2, Hid (l1 = L32 X) → Cells w' D1 l1 (Lm (d32 X)) → Hid (l2 = L32 Y) → Cells w' D2 l2 (Lm (d32 Y)) → Below wc.heap.size wc w' → Calls Try.prog 41 #[.agg #[.slice D1 l1 c1], .agg #[.slice D2 l2 c2]] w' fun e w'' => ∃ (D : Option Addr) (l c : Nat), e = .returned (.agg #[.slice D l c]) ∧ Hid (l = L32 (x)) ∧ Cells w'' D l (Lm (d32 (x))) ∧ Fresh w'.heap.size D ∧ Below w'.heap.size w' w'' ∧ Below wc.heap.size wc w'') := Lib.hid fun w' D1 l1 c1 D2 l2 c2 hl1 h1 hl2 h2 hw => by
    refine (rmul55_any (x := X) (y := Y) (by rw [hl1.out]; exact HX.out) (by rw [hl2.out]; exact HY.out) hl1.out hl2.out h1 h2 HP.out).mono ?_
    rintro e w'' ⟨⟨D, l, c, rfl, h3, h4, h5⟩, hb⟩
    rw [← HPE.out] at h3 h4
    exact ⟨D, l, c, rfl, Lib.hid h3, h4, h5, hb, Below.on hw hb⟩
  have HMK : Hid (∀ w' D1 l1 c1 D2 l2 c2, Hid (l1 = L32 x) → Cells w' D1 l1 (Lm (d32 x)) → Hid (l2 = L32 y) → Cells w' D2 l2 (Lm (d32 y)) → Below wc.heap.size wc w' → Calls Try.prog 31 #[.agg #[.slice D1 l1 c1], .agg #[.slice D2 l2 c2]] w' fun e w'' => (∃ Da la ca Db lb' cb', e = .returned (.tuple #[.agg #[.slice Da la ca, .slice Db lb' cb'], .int .i64 0]) ∧ Hid (la = L32 qa) ∧ Hid (lb' = L32 qb) ∧ la ≤ ca ∧ lb' ≤ cb' ∧ Cells w'' Da la (Lm (d32 qa)) ∧ Cells w'' Db lb' (Lm (d32 qb)) ∧ Fresh w'.heap.size Da ∧ Fresh w'.heap.size Db) ∧ Below w'.heap.size w' w'' ∧ Below wc.heap.size wc w'') := Lib.hid fun w' D1 l1 c1 D2 l2 c2 hl1 h1 hl2 h2 hw => by
    refine (rmake_any (x := x) (y := y) (by rw [hl1.out]; exact HX64.out) (by rw [hl2.out]; exact HY64.out) hl1.out hl2.out h1 h2 HY0.out).mono ?_
    rintro e w'' ⟨⟨Da, ca, Db, cb', rfl, hla, hlb, hca, hcb, hfa, hfb⟩, hb⟩
    rw [← HQA.out] at hla hca ⊢
    rw [← HQB.out] at hlb hcb ⊢
    exact ⟨⟨Da, _, ca, Db, _, cb', rfl, Lib.hid rfl, Lib.hid rfl, hla, hlb, hca, hcb, hfa, hfb⟩, hb, Below.on hw hb⟩
  have HALL : Hid (∀ w', Below wc.heap.size wc w' → w'.cell? ⟨gb, 3, none⟩ = some (.int .i64 (m : Int)) ∧ w'.cell? ⟨bA, 0, none⟩ = some (.slice DA lA cA) ∧ w'.cell? ⟨bB, 0, none⟩ = some (.slice DB lB cB)) := Lib.hid fun w' hw => ⟨((BSC.out.on hw).get (.tail _ (.head _))).2.2.cell 3, (KA.out.keep hw).cell 0, (KBB.out.keep hw).cell 0⟩
  have A0 : Below wc.heap.size wc wc.drew := (Below.refl _ _).drew
  go_upto_region 16 with (fail)
  go_region_held3 (fun w' => w'.cell? ⟨gb, 3, none⟩ = some (.int .i64 (m : Int)) ∧ w'.cell? ⟨bA, 0, none⟩ = some (.slice DA lA cA) ∧ w'.cell? ⟨bB, 0, none⟩ = some (.slice DB lB cB))
    (first
      | exact ⟨cell_put (cell_put h8.1 hgz) hgz, cell_put (cell_put h8.2.1 nA) nA, cell_put (cell_put h8.2.2 nB) nB⟩
      | exact ⟨cell_put h8.1 hgz, cell_put h8.2.1 nA, cell_put h8.2.2 nB⟩
      | exact HALL.out _ (by assumption))
    (first
      | (go_at_call 61; (with_reducible refine (HC1.out _ ?_).mono ?_); (first | assumption); rintro e1 v1 ⟨D1, l1, c1, rfl, hl1, hc1, hf1, hb1, t1⟩; have hA1 := hca0.below t1)
      | (go_at_call 41; (with_reducible refine (HMU.out _ _ _ _ _ _ _ ?_ ?_ ?_ ?_ ?_).mono ?_); (first | assumption); (first | assumption); (first | assumption); (first | assumption); (first | assumption); rintro e3 v3 ⟨D3, l3, c3, rfl, hl3, hc3, hf3, hb3, t3⟩; have hB3 := hcb0.below t3)
      | (go_at_call 31; (with_reducible refine (HMK.out _ _ _ _ _ _ _ ?_ ?_ ?_ ?_ ?_).mono ?_); (first | assumption); (first | assumption); (first | assumption); (first | assumption); (first | assumption); rintro e6 w8 ⟨⟨Da, la, ca, Db, lb', cb', rfl, hla, hlb, hl1, hl2, hca, hcb, hfa, hfb⟩, hb6, t6⟩; have s6 : wc.drew.heap.size ≤ v3.heap.size := t3.size; have h8 := HALL.out _ t6; have g6 : w8.cell? ⟨z, 0, none⟩ = some (.slice none 0 0) := ((BSC.out.on t6).get (.head _)).2.2.cell 0; have g7 : w8.cell? ⟨z, 1, none⟩ = some (.slice none 0 0) := ((BSC.out.on t6).get (.head _)).2.2.cell 1; have h6 : w8.frozen? ⟨z, 0, none⟩ = false := ((BSC.out.on t6).get (.head _)).2.2.frozen 0; have h7 : w8.frozen? ⟨z, 1, none⟩ = false := ((BSC.out.on t6).get (.head _)).2.2.frozen 1)
      | fail)
  all_goals
    have HB6 := Lib.hid (BSC.out.on t6).below
    have LZ := Lib.hid (Nat.lt_of_lt_of_le (BSC.out.get (.head _)).2.1 A0.size)
    have LW := Lib.hid BSC.out.below.size
    go_wp2
    refine bodyPost_ret (v := .tuple #[.agg #[.slice Da la ca, .slice Db lb' cb'], .int .i64 0]) (by simp [results, Try.results27, go_sem, g6, g7]) rfl ?_
    refine ⟨⟨Da, ca, Db, cb', by rw [← hla.out, ← hlb.out]; rfl, by rw [← hla.out]; exact hl1, by rw [← hlb.out]; exact hl2, ?_, ?_, hfa.mono (Nat.le_trans (Nat.le_trans LW.out A0.size) s6), hfb.mono (Nat.le_trans (Nat.le_trans LW.out A0.size) s6)⟩, bse (bse HB6.out hzw _ _) hzw _ _⟩
    · rw [← hla.out]
      exact (hca.set_ hfa (Nat.lt_of_lt_of_le LZ.out s6) _ _).set_ hfa (Nat.lt_of_lt_of_le LZ.out s6) _ _
    · rw [← hlb.out]
      exact (hcb.set_ hfb (Nat.lt_of_lt_of_le LZ.out s6) _ _).set_ hfb (Nat.lt_of_lt_of_le LZ.out s6) _ _
end Fa
end Go.Proofs.Ytiflmnmkmpjecaa
