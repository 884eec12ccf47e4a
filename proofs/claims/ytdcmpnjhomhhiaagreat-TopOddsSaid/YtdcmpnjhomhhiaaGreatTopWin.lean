/- The walks of odds.won, outcomes, Outcomes on a tiny game. -/
import Derived.Test.YtdcmpnjhomhhiaaGreatTopProd
set_option linter.unusedVariables false
namespace Go.Proofs.YtdcmpnjhomhhiaaGreat
open Go.RowKit Fr Fa
namespace Tp
set_option maxHeartbeats 8000000 in
set_option maxRecDepth 100000 in
theorem won_tg (w : World) {m n b c x : Nat} {D : Option Addr} {T k : Nat} {P Q : Nat → Nat} {a z d : Nat} (hT2 : T ≤ 7) (hD : Cells w D (T * 6) (Six P Q)) : Calls Tryz.prog 48 #[.agg (tg m n b c x D T k), .int .i64 (a : Int), .int .i64 (z : Int), .int .i64 (d : Int)] w fun e w' => e = .returned (.int .i64 (tno (first P Q a d T))) ∧ Below w.heap.size w w' := by
  have HD := Lib.hid hD
  clear hD
  have HR0 : Hid (first P Q a d 0 = none) := Lib.hid rfl
  have BS0 := Lib.hid ((Fr.Bs.nil w).alloc TG (tg m n b c x D T k))
  unfold tg at BS0 ⊢
  go_enter Tryz.func48, Tryz.ntmps48
  go_upto_region 1 with (fail)
  obtain ⟨wa, hwa⟩ : ∃ wa, wa = (w.alloc (.cells #[.string lotto, .int .i64 1, .int .i64 200, .int .i64 (m : Int), .int .i64 (n : Int), .int .i64 (b : Int), .int .i64 (c : Int), .int .i64 (x : Int), .int .i64 4, .int .i64 (m : Int), .int .i64 32, .int .i64 1230, .int .i64 30, .int .i64 15, .int .i64 90, .int .i64 5000, .int .i64 0, .int .i64 1, .int .i64 0, .int .i64 0, .slice none 0 0, .slice D T k] TG)) := ⟨_, rfl⟩
  change Code.wp _ _ _ _ (w.alloc (.cells #[.string lotto, .int .i64 1, .int .i64 200, .int .i64 (m : Int), .int .i64 (n : Int), .int .i64 (b : Int), .int .i64 (c : Int), .int .i64 (x : Int), .int .i64 4, .int .i64 (m : Int), .int .i64 32, .int .i64 1230, .int .i64 30, .int .i64 15, .int .i64 90, .int .i64 5000, .int .i64 0, .int .i64 1, .int .i64 0, .int .i64 0, .slice none 0 0, .slice D T k] TG))
  rw [← hwa] at BS0 ⊢
  have HB := Lib.hid BS0.out.below
  obtain ⟨_, lg, kg⟩ := BS0.out.get (.head _)
  obtain ⟨gb, hgb⟩ : ∃ g, g = w.heap.size := ⟨_, rfl⟩
  rw [← hgb] at kg lg
  rw [show (Value.pointer (some ⟨w.heap.size, 0, none⟩)) = .pointer (some ⟨gb, 0, none⟩) by rw [hgb]]
  have Sg := Lib.hid (show w.heap.size ≤ gb by omega)
  have Kg := Lib.hid kg
  clear kg lg
  clear hwa BS0 hgb
  replace HD := Lib.hid (HD.out.below HB.out)
  have g21 : wa.cell? ⟨gb, 21, none⟩ = some (.slice D T k) := Kg.out.cell 21
  go_wp2
  clear g21
  go_loopw [14] (fun i wr => ∃ q : Nat, q ≤ T ∧ i = .int .i64 (q : Int) ∧ Hid (first P Q a d q = none) ∧ Hid (Below wa.heap.size wa wr)) (fun i _ => T - (intOf i).toNat)
  case atStart => exact ⟨0, Nat.zero_le _, rfl, HR0, Lib.hid (Below.refl _ _)⟩
  case round =>
    obtain ⟨q, hq, rfl, HR, HBW⟩ := hrel
    rename World => wr
    by_cases hqT : q < T
    · obtain ⟨bd, od, hde, hdlt, d0, d1, d2, d3, d4, d5⟩ := (HD.out.below HBW.out).six hqT
      subst hde
      go_upto_region 4 with (fail)
      obtain ⟨wb, hwb⟩ : ∃ wb, wb = wr.alloc (.cells #[.int .i64 (P q : Int), .int .i64 (Q q : Int), .int .i64 0, .int .i64 0, .int .i64 1, .int .i64 10] TT) := ⟨_, rfl⟩
      change Code.wp _ _ _ _ (wr.alloc (.cells #[.int .i64 (P q : Int), .int .i64 (Q q : Int), .int .i64 0, .int .i64 0, .int .i64 1, .int .i64 10] TT))
      obtain ⟨tb, htb⟩ : ∃ g, g = wr.heap.size := ⟨_, rfl⟩
      rw [← hwb, show (Value.pointer (some ⟨wr.heap.size, 0, none⟩)) = .pointer (some ⟨tb, 0, none⟩) by rw [htb]]
      have BT : Hid (Fr.Bs wr wb [(tb, TT, #[.int .i64 (P q : Int), .int .i64 (Q q : Int), .int .i64 0, .int .i64 0, .int .i64 1, .int .i64 10])]) := by
        rw [hwb, htb]
        exact Lib.hid ((Fr.Bs.nil wr).alloc TT _)
      have HB1 := Lib.hid (Below.on HBW.out BT.out.below)
      obtain ⟨_, lt, kt⟩ := BT.out.get (.head _)
      have p0 : wb.cell? ⟨tb, 0, none⟩ = some (.int .i64 (P q : Int)) := kt.cell 0
      have p1 : wb.cell? ⟨tb, 1, none⟩ = some (.int .i64 (Q q : Int)) := kt.cell 1
      have p2 : wb.cell? ⟨tb, 2, none⟩ = some (.int .i64 0) := kt.cell 2
      have HBE := Lib.hid (Below.on HB.out HB1.out)
      have hz0 : (0 : Int) ≤ (z : Int) := by omega
      clear kt hwb htb d0 d1 d2 d3 d4 d5 BT lt
      by_cases hp : P q ≤ a
      · have hp1 : (P q : Int) ≤ (a : Int) := by omega
        by_cases hq2 : Q q ≤ d
        · have hp2 : (Q q : Int) ≤ (d : Int) := by omega
          have HY := Lib.hid (first_yes HR.out ⟨hp, hq2⟩ hqT)
          clear hp hq2
          go_wp2
          go_ret
          exact ⟨by rw [HY.out]; rfl, HBE.out⟩
        · have hp2 : ((Q q : Int) ≤ (d : Int)) = False := eq_false (by omega)
          have HY := Lib.hid (first_no HR.out (fun h => hq2 h.2))
          clear hp hq2
          go_wp2
          go_roundw
          case rel => exact ⟨q + 1, by omega, by first | rfl | simp, HY, HB1⟩
          case measure => simp [intOf]; omega
      · have hp1 : ((P q : Int) ≤ (a : Int)) = False := eq_false (by omega)
        have HY := Lib.hid (first_no HR.out (fun h => hp h.1))
        clear hp
        go_wp2
        go_roundw
        case rel => exact ⟨q + 1, by omega, by first | rfl | simp, HY, HB1⟩
        case measure => simp [intOf]; omega
    · obtain rfl : q = T := by omega
      go_wp2
      go_ret
      exact ⟨by rw [HR.out]; rfl, Below.on HB.out HBW.out⟩
theorem czi_le {n j : Int} (hn : n ≤ 7) (hj : j ≤ 3) : czi n j ≤ 100 := by
  unfold czi
  split
  · omega
  · exact Nat.le_of_lt (cz_tiny2 (by omega) hj)
/-- The number of outcomes. -/
def Oc (n m x c b : Nat) : Nat := 1 * czi n m * czi ((n : Int) - m) x * czi c b
def FO (n m c : Nat) (i : Nat) : Int := if i = 0 then (n : Int) else if i = 1 then (n : Int) - (m : Int) else if i = 2 then (c : Int) else 0
def RO (m x b : Nat) (i : Nat) : Int := if i = 0 then (m : Int) else if i = 1 then (x : Int) else if i = 2 then (b : Int) else 0
set_option maxHeartbeats 8000000 in
set_option maxRecDepth 100000 in
theorem outc_tg (w : World) {m n b c x : Nat} {D : Option Addr} {T k : Nat} {P Q : Nat → Nat} (hG : Gs m n b c x T k P Q) : Calls Tryz.prog 19 #[.agg (tg m n b c x D T k)] w fun e w' => Num1 w.heap.size w' e (Oc n m x c b) ∧ Below w.heap.size w w' := by
  have h7 := hG.hn
  have hb2 : b ≤ 1 := by have := hG.hb; omega
  have hm3 := hG.hm
  have hmx := hG.hmx
  have hx1 := hG.hx
  have hc3 : c ≤ 3 := by have := hG.hb; omega
  have HC := Lib.hid (fun (w : World) (A : Option Addr) (d : Nat) (hA : Cells w A (3 * 2) (Two (FO n m c) (RO m x b))) => chosen_any (c := d) w (by omega) hA (by unfold FO; intro i hi; split <;> (try split) <;> (try split) <;> omega) (by unfold FO RO; intro i hi; apply czi_le <;> (split <;> (try split) <;> (try split) <;> omega)))
  have e : pr (fun i => czi (FO n m c i) (RO m x b i)) 3 = Oc n m x c b := rfl
  rw [e] at HC
  obtain ⟨N, hN⟩ : ∃ N, N = Oc n m x c b := ⟨_, rfl⟩
  rw [← hN] at HC ⊢
  obtain ⟨q1, hq1⟩ : ∃ q1, q1 = (n : Int) - (m : Int) := ⟨_, rfl⟩
  have v1 : IntKind.i64.wrap ((n : Int) - (m : Int)) = q1 := by rw [IntWalk.i64_in _ (by omega)]; exact hq1.symm
  have HT : Hid (∀ (w : World) (j : Nat), j < 3 * 2 → (#[.int .i64 (n : Int), .int .i64 (m : Int), .int .i64 q1, .int .i64 (x : Int), .int .i64 (c : Int), .int .i64 (b : Int)] : Array Value)[j]? = some (Two (FO n m c) (RO m x b) j)) := Lib.hid fun w j hj => by
    rw [hq1]
    match j, hj with
    | 0, _ => rfl
    | 1, _ => rfl
    | 2, _ => rfl
    | 3, _ => rfl
    | 4, _ => rfl
    | 5, _ => rfl
  clear hG e hN hq1 h7 hb2 hm3 hmx hx1 hc3
  have BS0 := Lib.hid (box2 w TG TN (tg m n b c x D T k) #[.slice none 0 0])
  unfold tg at BS0 ⊢
  go_enter Tryz.func19, Tryz.ntmps19
  go_upto_region 1 with (fail)
  obtain ⟨wa, hwa⟩ : ∃ wa, wa = ((w.alloc (.cells #[.string lotto, .int .i64 1, .int .i64 200, .int .i64 (m : Int), .int .i64 (n : Int), .int .i64 (b : Int), .int .i64 (c : Int), .int .i64 (x : Int), .int .i64 4, .int .i64 (m : Int), .int .i64 32, .int .i64 1230, .int .i64 30, .int .i64 15, .int .i64 90, .int .i64 5000, .int .i64 0, .int .i64 1, .int .i64 0, .int .i64 0, .slice none 0 0, .slice D T k] TG)).alloc (.cells #[.slice none 0 0] TN)) := ⟨_, rfl⟩
  change Code.wp _ _ _ _ ((w.alloc (.cells #[.string lotto, .int .i64 1, .int .i64 200, .int .i64 (m : Int), .int .i64 (n : Int), .int .i64 (b : Int), .int .i64 (c : Int), .int .i64 (x : Int), .int .i64 4, .int .i64 (m : Int), .int .i64 32, .int .i64 1230, .int .i64 30, .int .i64 15, .int .i64 90, .int .i64 5000, .int .i64 0, .int .i64 1, .int .i64 0, .int .i64 0, .slice none 0 0, .slice D T k] TG)).alloc (.cells #[.slice none 0 0] TN))
  rw [← hwa] at BS0 ⊢
  have HB := Lib.hid BS0.out.below
  obtain ⟨_, lz, kz⟩ := BS0.out.get (.head _)
  obtain ⟨zb, hzb⟩ : ∃ g, g = w.heap.size + 1 := ⟨_, rfl⟩
  rw [← hzb] at kz lz
  rw [show (Value.pointer (some ⟨w.heap.size + 1, 0, none⟩)) = .pointer (some ⟨zb, 0, none⟩) by rw [hzb]]
  have Sz := Lib.hid (show w.heap.size ≤ zb by omega)
  have Kz := Lib.hid kz
  clear kz lz
  obtain ⟨_, lg, kg⟩ := BS0.out.get (.tail _ (.head _))
  obtain ⟨gb, hgb⟩ : ∃ g, g = w.heap.size := ⟨_, rfl⟩
  rw [← hgb] at kg lg
  rw [show (Value.pointer (some ⟨w.heap.size, 0, none⟩)) = .pointer (some ⟨gb, 0, none⟩) by rw [hgb]]
  have Sg := Lib.hid (show w.heap.size ≤ gb by omega)
  have Kg := Lib.hid kg
  clear kg lg
  clear hwa BS0 hgb hzb
  have g1 : wa.cell? ⟨gb, 1, none⟩ = some (.int .i64 1) := Kg.out.cell 1
  have g3 : wa.cell? ⟨gb, 3, none⟩ = some (.int .i64 (m : Int)) := Kg.out.cell 3
  have g4 : wa.cell? ⟨gb, 4, none⟩ = some (.int .i64 (n : Int)) := Kg.out.cell 4
  have g5 : wa.cell? ⟨gb, 5, none⟩ = some (.int .i64 (b : Int)) := Kg.out.cell 5
  have g6 : wa.cell? ⟨gb, 6, none⟩ = some (.int .i64 (c : Int)) := Kg.out.cell 6
  have g7 : wa.cell? ⟨gb, 7, none⟩ = some (.int .i64 (x : Int)) := Kg.out.cell 7
  go_wp2_with fail
  with_reducible refine (HC.out _ _ _ (Cells.lit rfl (HT.out w))).mono ?_
  rintro e w2 ⟨⟨D0, l0, c0, rfl, hl0, hc0, hf0⟩, hb2⟩
  have hb1 : Below wa.heap.size wa w2 := Below.on ((Below.refl _ _).alloc (Nat.le_refl _) _) hb2
  have hlz : zb < (wa.alloc (.cells #[.int .i64 (n : Int), .int .i64 (m : Int), .int .i64 q1, .int .i64 (x : Int), .int .i64 (c : Int), .int .i64 (b : Int)] 80)).heap.size := by have := Kz.out.lt; rw [World.size_alloc]; omega
  clear hb2
  have HF2 := Lib.hid (hf0.mono (show w.heap.size ≤ _ by have := Sz.out; omega))
  have HFS := Lib.hid (hc0.set_ hf0 hlz 0 (.slice D0 l0 c0))
  have HL := Lib.hid hl0
  replace HB := Lib.hid (Below.on HB.out hb1)
  replace Kz := Lib.hid (Kz.out.keep hb1)
  have qz : w2.cell? ⟨zb, 0, none⟩ = some (.slice none 0 0) := Kz.out.cell 0
  have fz : w2.frozen? ⟨zb, 0, none⟩ = false := Kz.out.frozen 0
  clear hl0 hc0 hf0 hb1 hlz
  go_wp2
  refine bodyPost_ret (v := .tuple #[.agg #[.slice D0 l0 c0], .int .i64 0]) (by simp [results, Tryz.results19, go_sem, qz]) rfl ?_
  exact ⟨⟨D0, l0, c0, rfl, HL.out, HFS.out, HF2.out⟩, bse HB.out Sz.out _ _⟩
set_option maxHeartbeats 8000000 in
set_option maxRecDepth 100000 in
theorem outcomes_tg (w : World) {m n b c x : Nat} {D : Option Addr} {T k : Nat} {P Q : Nat → Nat} (hG : Gs m n b c x T k P Q) (hD : Cells w D (T * 6) (Six P Q)) : Calls Tryz.prog 6 #[.agg (tg m n b c x D T k)] w fun e w' => Num1 w.heap.size w' e (Oc n m x c b) ∧ Below w.heap.size w w' := by
  have HK := Lib.hid (fun (w : World) (hD : Cells w D (T * 6) (Six P Q)) => check_gs w hG hD)
  have HC := Lib.hid (fun (w : World) => outc_tg (D := D) w hG)
  have HD := Lib.hid hD
  obtain ⟨N, hN⟩ : ∃ N, N = Oc n m x c b := ⟨_, rfl⟩
  rw [← hN] at HC ⊢
  unfold tg at HK HC
  clear hG hD hN
  have BS0 := Lib.hid (box2 w TG TN (tg m n b c x D T k) #[.slice none 0 0])
  unfold tg at BS0 ⊢
  go_enter Tryz.func6, Tryz.ntmps6
  go_upto_region 1 with (fail)
  obtain ⟨wa, hwa⟩ : ∃ wa, wa = ((w.alloc (.cells #[.string lotto, .int .i64 1, .int .i64 200, .int .i64 (m : Int), .int .i64 (n : Int), .int .i64 (b : Int), .int .i64 (c : Int), .int .i64 (x : Int), .int .i64 4, .int .i64 (m : Int), .int .i64 32, .int .i64 1230, .int .i64 30, .int .i64 15, .int .i64 90, .int .i64 5000, .int .i64 0, .int .i64 1, .int .i64 0, .int .i64 0, .slice none 0 0, .slice D T k] TG)).alloc (.cells #[.slice none 0 0] TN)) := ⟨_, rfl⟩
  change Code.wp _ _ _ _ ((w.alloc (.cells #[.string lotto, .int .i64 1, .int .i64 200, .int .i64 (m : Int), .int .i64 (n : Int), .int .i64 (b : Int), .int .i64 (c : Int), .int .i64 (x : Int), .int .i64 4, .int .i64 (m : Int), .int .i64 32, .int .i64 1230, .int .i64 30, .int .i64 15, .int .i64 90, .int .i64 5000, .int .i64 0, .int .i64 1, .int .i64 0, .int .i64 0, .slice none 0 0, .slice D T k] TG)).alloc (.cells #[.slice none 0 0] TN))
  rw [← hwa] at BS0 ⊢
  have HB := Lib.hid BS0.out.below
  obtain ⟨_, lz, kz⟩ := BS0.out.get (.head _)
  obtain ⟨zb, hzb⟩ : ∃ g, g = w.heap.size + 1 := ⟨_, rfl⟩
  rw [← hzb] at kz lz
  rw [show (Value.pointer (some ⟨w.heap.size + 1, 0, none⟩)) = .pointer (some ⟨zb, 0, none⟩) by rw [hzb]]
  have Sz := Lib.hid (show w.heap.size ≤ zb by omega)
  have Kz := Lib.hid kz
  clear kz lz
  obtain ⟨_, lg, kg⟩ := BS0.out.get (.tail _ (.head _))
  obtain ⟨gb, hgb⟩ : ∃ g, g = w.heap.size := ⟨_, rfl⟩
  rw [← hgb] at kg lg
  rw [show (Value.pointer (some ⟨w.heap.size, 0, none⟩)) = .pointer (some ⟨gb, 0, none⟩) by rw [hgb]]
  have Sg := Lib.hid (show w.heap.size ≤ gb by omega)
  have Kg := Lib.hid kg
  clear kg lg
  clear hwa BS0 hgb hzb
  replace HD := Lib.hid (HD.out.below HB.out)
  go_wp2_with (refine wpList_load_row rfl TG _ rfl gb rfl TG _ (0, 0) _ Kg.out Tryz.underlying27 rfl (by kernel_rfl) ?_)
  go_wp2_with fail
  with_reducible refine (HK.out _ HD.out).mono ?_
  rintro e w1 ⟨rfl, hb1⟩
  replace HB := Lib.hid (Below.on HB.out hb1)
  replace Kg := Lib.hid (Kg.out.keep hb1)
  replace Kz := Lib.hid (Kz.out.keep hb1)
  replace HD := Lib.hid (HD.out.below hb1)
  clear hb1
  go_wp2_with (refine wpList_load_row rfl TG _ rfl gb rfl TG _ (0, 0) _ Kg.out Tryz.underlying27 rfl (by kernel_rfl) ?_)
  go_wp2_with fail
  with_reducible refine (HC.out _).mono ?_
  rintro e w2 ⟨⟨D0, l0, c0, rfl, hl0, hc0, hf0⟩, hb1⟩
  have hlz := Kz.out.lt
  have HF2 := Lib.hid (hf0.mono (show w.heap.size ≤ _ by have := Sz.out; omega))
  have HFS := Lib.hid (hc0.set_ hf0 hlz 0 (.slice D0 l0 c0))
  have HL := Lib.hid hl0
  replace HB := Lib.hid (Below.on HB.out hb1)
  replace Kz := Lib.hid (Kz.out.keep hb1)
  have qz : w2.cell? ⟨zb, 0, none⟩ = some (.slice none 0 0) := Kz.out.cell 0
  have fz : w2.frozen? ⟨zb, 0, none⟩ = false := Kz.out.frozen 0
  clear hl0 hc0 hf0 hb1 hlz
  go_wp2
  refine bodyPost_ret (v := .tuple #[.agg #[.slice D0 l0 c0], .int .i64 0]) (by simp [results, Tryz.results6, go_sem, qz]) rfl ?_
  exact ⟨⟨D0, l0, c0, rfl, HL.out, HFS.out, HF2.out⟩, bse HB.out Sz.out _ _⟩

end Tp
end Go.Proofs.YtdcmpnjhomhhiaaGreat
