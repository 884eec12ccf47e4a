/- matrix.Unrank of a tiny game. -/
import Derived.Test.YtdcmpnjhomhhiaaGreatTopUn
import Derived.Deep.RegionHeld3
import Derived.Deep.CutRange
set_option linter.unusedVariables false
namespace Go.Proofs.YtdcmpnjhomhhiaaGreat
open Go.RowKit Fr Fa
namespace Tp
abbrev TL : TypeId := 39
theorem cz_pos {n k : Nat} (h : k ≤ n) : cz n (k : Int) = cb n k := by
  unfold cz; rw [if_pos (by omega)]; rfl
set_option maxHeartbeats 8000000 in
set_option maxRecDepth 100000 in
theorem munrank_tg (w : World) {m n b c x : Nat} {D : Option Addr} {T k : Nat} {P Q : Nat → Nat} {q : Nat} (hm0 : 1 ≤ m) (hm : m ≤ 3) (hmx : m + x ≤ n) (hn : n ≤ 7) (hx : x ≤ 1) (hb : b = 0 ∧ c = 0 ∨ b = 1 ∧ 1 ≤ c ∧ c ≤ 3) (hD : Cells w D (T * 6) (Six P Q)) (hT : 1 ≤ T) (hT2 : T ≤ 7) (hk : T ≤ k) (hP : ∀ i, i < T → P i ≤ m ∧ Q i ≤ b ∧ 0 < P i + Q i) (hd : ∀ j i, j < i → i < T → P i < P j ∨ P i = P j ∧ Q i < Q j) (hq : q < cz n (m : Int) * cz c (b : Int)) : Calls Tryz.prog 7 #[.agg (tg m n b c x D T k), .int .i64 (q : Int)] w fun e w' => (∃ (E F : Option Addr) (u v : Nat), e = .returned (.tuple #[.agg #[.slice E m u, .slice F b v], .int .i64 0]) ∧ Cells w' E m (Dg fun i => (ur n m (q / cz c (b : Int)) n).2.getD i 0) ∧ Cells w' F b (Dg fun i => (ur c b (q % cz c (b : Int)) c).2.getD i 0) ∧ Fresh w.heap.size E ∧ Fresh w.heap.size F ∧ m ≤ u ∧ b ≤ v) ∧ Below w.heap.size w w' := by
  have HK := Lib.hid (fun (w : World) (hD : Cells w D (T * 6) (Six P Q)) => mcount_tg w hm0 hm hmx hn hx hb hD hT hT2 hk hP hd)
  have hc3 : c ≤ 3 := by omega
  have hb3 : b ≤ 1 := by omega
  have hbc : b ≤ c := by omega
  have hmn : m ≤ n := by omega
  have hM := cz_tiny hn hm
  have hB := cz_tiny (n := c) (m := b) (by omega) (by omega)
  have HC2 := Lib.hid (fun (w : World) => count_any w (n := c) (by omega) (b : Int) (Nat.lt_trans hB (by omega)))
  obtain ⟨M, eM⟩ : ∃ M, M = cz n (m : Int) := ⟨_, rfl⟩
  obtain ⟨B, eB⟩ : ∃ B, B = cz c (b : Int) := ⟨_, rfl⟩
  rw [← eM, ← eB] at hq
  have hB0 : 0 < B := by
    rcases Nat.eq_zero_or_pos B with h | h
    · rw [h] at hq; omega
    · exact h
  have h1 : q / B < M := Nat.div_lt_of_lt_mul (by rw [Nat.mul_comm]; exact hq)
  have h2 : q % B < B := Nat.mod_lt _ hB0
  have HU1 := Lib.hid (fun (w : World) => unrank_tg w (r := q / B) hn hm hmn (by rw [← cz_pos hmn, ← eM]; exact h1))
  have HU2 := Lib.hid (fun (w : World) => unrank_tg w (r := q % B) (n := c) (k := b) (by omega) (by omega) hbc (by rw [← cz_pos hbc, ← eB]; exact h2))
  rw [← eM] at hM
  rw [← eB] at hB
  rw [← eB] at HC2 ⊢
  rw [← eM, ← eB] at HK
  have hq2 : q < 10000 := Nat.lt_trans hq (Nat.lt_of_le_of_lt (Nat.mul_le_mul (Nat.le_of_lt_succ hM) (Nat.le_of_lt_succ hB)) (by omega))
  obtain ⟨MB, eMB⟩ : ∃ z, z = M * B := ⟨_, rfl⟩
  rw [← eMB] at HK hq
  have d1 : (q : Int).tdiv (B : Int) = ((q / B : Nat) : Int) := rfl
  have d2 : (q : Int).tmod (B : Int) = ((q % B : Nat) : Int) := rfl
  obtain ⟨q1, e1⟩ : ∃ z, z = q / B := ⟨_, rfl⟩
  obtain ⟨q2, e2⟩ : ∃ z, z = q % B := ⟨_, rfl⟩
  rw [← e1] at HU1 d1 ⊢
  rw [← e2] at HU2 d2 ⊢
  have g0 : ((q : Int) < 0) = False := eq_false (by omega)
  have g1 : ((MB : Int) ≤ (q : Int)) = False := eq_false (by omega)
  have g2 : (B = 0) = False := eq_false (by omega)
  have hq1 : q1 ≤ q := by rw [e1]; exact Nat.div_le_self _ _
  have hq3 : q2 ≤ q := by rw [e2]; exact Nat.mod_le _ _
  have v1 : IntKind.i64.wrap (q1 : Int) = (q1 : Int) := IntWalk.i64_in _ (by omega)
  have v2 : IntKind.i64.wrap (q2 : Int) = (q2 : Int) := IntWalk.i64_in _ (by omega)
  have HD := Lib.hid hD
  unfold tg at HK
  clear hP hd hD hb hm0 hm hmx hn hx hT hT2 hk hc3 hb3 hbc hmn e1 e2 eMB eM eB h1 h2 hM hq
  have BS0 := Lib.hid (box2 w TG TL (tg m n b c x D T k) #[.slice none 0 0, .slice none 0 0])
  unfold tg at BS0 ⊢
  go_enter Tryz.func7, Tryz.ntmps7
  go_upto_region 1 with (fail)
  obtain ⟨wa, hwa⟩ : ∃ wa, wa = ((w.alloc (.cells #[.string lotto, .int .i64 1, .int .i64 200, .int .i64 (m : Int), .int .i64 (n : Int), .int .i64 (b : Int), .int .i64 (c : Int), .int .i64 (x : Int), .int .i64 4, .int .i64 (m : Int), .int .i64 32, .int .i64 1230, .int .i64 30, .int .i64 15, .int .i64 90, .int .i64 5000, .int .i64 0, .int .i64 1, .int .i64 0, .int .i64 0, .slice none 0 0, .slice D T k] TG)).alloc (.cells #[.slice none 0 0, .slice none 0 0] TL)) := ⟨_, rfl⟩
  change Code.wp _ _ _ _ ((w.alloc (.cells #[.string lotto, .int .i64 1, .int .i64 200, .int .i64 (m : Int), .int .i64 (n : Int), .int .i64 (b : Int), .int .i64 (c : Int), .int .i64 (x : Int), .int .i64 4, .int .i64 (m : Int), .int .i64 32, .int .i64 1230, .int .i64 30, .int .i64 15, .int .i64 90, .int .i64 5000, .int .i64 0, .int .i64 1, .int .i64 0, .int .i64 0, .slice none 0 0, .slice D T k] TG)).alloc (.cells #[.slice none 0 0, .slice none 0 0] TL))
  rw [← hwa] at BS0 ⊢
  have HB := Lib.hid BS0.out.below
  obtain ⟨_, lg, kg⟩ := BS0.out.get (.tail _ (.head _))
  obtain ⟨_, lz, kz⟩ := BS0.out.get (.head _)
  obtain ⟨zb, hzb⟩ : ∃ g, g = w.heap.size + 1 := ⟨_, rfl⟩
  rw [← hzb] at kz lz
  rw [show (Value.pointer (some ⟨w.heap.size + 1, 0, none⟩)) = .pointer (some ⟨zb, 0, none⟩) by rw [hzb]]
  obtain ⟨gb, hgb⟩ : ∃ g, g = w.heap.size := ⟨_, rfl⟩
  rw [← hgb] at kg lg
  rw [show (Value.pointer (some ⟨w.heap.size, 0, none⟩)) = .pointer (some ⟨gb, 0, none⟩) by rw [hgb]]
  have HZ0 := Lib.hid (show w.heap.size ≤ zb by omega)
  clear hwa hgb hzb
  have KG := Lib.hid kg
  have KZ := Lib.hid kz
  clear kg kz BS0
  go_wp2_with (refine wpList_load_row rfl TG _ rfl gb rfl TG _ (0, 0) _ KG.out Tryz.underlying27 rfl (by kernel_rfl) ?_)
  go_wp2_with fail
  with_reducible refine (HK.out _ (HD.out.below HB.out)).mono ?_
  rintro e w1 ⟨rfl, hb1⟩
  replace HB := Lib.hid (Below.on HB.out hb1)
  replace KG := Lib.hid (KG.out.keep hb1)
  replace KZ := Lib.hid (KZ.out.keep hb1)
  clear hb1
  have g1' : w1.cell? ⟨gb, 1, none⟩ = some (.int .i64 1) := KG.out.cell 1
  have g5 : w1.cell? ⟨gb, 5, none⟩ = some (.int .i64 (b : Int)) := KG.out.cell 5
  have g6 : w1.cell? ⟨gb, 6, none⟩ = some (.int .i64 (c : Int)) := KG.out.cell 6
  go_wp2_with fail
  with_reducible refine (HC2.out _).mono ?_
  rintro e w2 ⟨rfl, hb1⟩
  replace HB := Lib.hid (Below.on HB.out hb1)
  replace KG := Lib.hid (KG.out.keep hb1)
  replace KZ := Lib.hid (KZ.out.keep hb1)
  clear hb1 g1' g5 g6
  have g3 : w2.cell? ⟨gb, 3, none⟩ = some (.int .i64 (m : Int)) := KG.out.cell 3
  have g4 : w2.cell? ⟨gb, 4, none⟩ = some (.int .i64 (n : Int)) := KG.out.cell 4
  go_upto_region 17 with (fail)
  have HOF : Hid (∀ wz, Below w2.heap.size w2 wz → Calls Tryz.prog 20 #[.int .i64 (q1 : Int), .int .i64 (n : Int), .int .i64 (m : Int)] wz fun e w' => (∃ (E : Option Addr) (u : Nat), e = .returned (.tuple #[.slice E m u, .int .i64 0]) ∧ Cells w' E m (Dg fun i => (ur n m q1 n).2.getD i 0) ∧ Fresh w2.heap.size E ∧ m ≤ u) ∧ Below w2.heap.size w2 w') := Lib.hid fun wz hz => (HU1.out wz).mono fun e w' h => ⟨by obtain ⟨⟨D1, c1, h1, h2, h3, h4⟩, _⟩ := h; exact ⟨D1, c1, h1, h2, h3.mono hz.size, h4⟩, Below.on hz h.2⟩
  have HALL : Hid (∀ wz, Below w2.heap.size w2 wz → wz.cell? ⟨gb, 4, none⟩ = some (.int .i64 (n : Int)) ∧ wz.cell? ⟨gb, 3, none⟩ = some (.int .i64 (m : Int)) ∧ Below w2.heap.size w2 wz) := Lib.hid fun wz hz => ⟨(KG.out.keep hz).cell 4, (KG.out.keep hz).cell 3, hz⟩
  have HZw2 := Lib.hid KZ.out.lt
  have HSw2 := Lib.hid HB.out.size
  have A0 : Below w2.heap.size w2 w2.drew := (Below.refl _ _).drew
  go_cut [11, 7] (fun sL s7 wx => s7 = .int .i64 0 ∧ ∃ (E : Option Addr) (u : Nat), sL = .slice E m u ∧ Hid (Cells wx E m (Dg fun i => (ur n m q1 n).2.getD i 0)) ∧ Hid (Fresh w2.heap.size E) ∧ Hid (m ≤ u) ∧ Hid (Below w2.heap.size w2 wx))
  case first =>
    go_region_held3 (fun w' => w'.cell? ⟨gb, 4, none⟩ = some (.int .i64 (n : Int)) ∧ w'.cell? ⟨gb, 3, none⟩ = some (.int .i64 (m : Int)) ∧ Below w2.heap.size w2 w')
      (first | exact HALL.out _ (by assumption))
      (first
        | (go_at_call 20; (with_reducible refine (HOF.out _ ?_).mono ?_); (first | assumption); rintro e5 w5 ⟨⟨E5, u5, rfl, hE5, fE5, gE5⟩, t5⟩; have h5 := HALL.out _ t5)
        | fail)
    all_goals
      go_wp2_with fail
      go_meet
      case rel => exact ⟨rfl, E5, u5, rfl, Lib.hid hE5, Lib.hid fE5, Lib.hid gE5, Lib.hid t5⟩
  clear HOF HALL A0
  obtain ⟨rfl, E, u, rfl, HE, HEF, HEU, HBX⟩ := hcut
  replace HB := Lib.hid (Below.on HB.out HBX.out)
  replace KG := Lib.hid (KG.out.keep HBX.out)
  replace KZ := Lib.hid (KZ.out.keep HBX.out)
  clear HBX g3 g4
  rename World => w4
  go_upto_region 20 with (fail)
  have HOF : Hid (∀ wz, Below w4.heap.size w4 wz → Calls Tryz.prog 20 #[.int .i64 (q2 : Int), .int .i64 (c : Int), .int .i64 (b : Int)] wz fun e w' => (∃ (F : Option Addr) (v : Nat), e = .returned (.tuple #[.slice F b v, .int .i64 0]) ∧ Cells w' F b (Dg fun i => (ur c b q2 c).2.getD i 0) ∧ Fresh w4.heap.size F ∧ b ≤ v) ∧ Below w4.heap.size w4 w') := Lib.hid fun wz hz => (HU2.out wz).mono fun e w' h => ⟨by obtain ⟨⟨D1, c1, h1, h2, h3, h4⟩, _⟩ := h; exact ⟨D1, c1, h1, h2, h3.mono hz.size, h4⟩, Below.on hz h.2⟩
  have HALL : Hid (∀ wz, Below w4.heap.size w4 wz → wz.cell? ⟨gb, 6, none⟩ = some (.int .i64 (c : Int)) ∧ wz.cell? ⟨gb, 5, none⟩ = some (.int .i64 (b : Int)) ∧ Below w4.heap.size w4 wz) := Lib.hid fun wz hz => ⟨(KG.out.keep hz).cell 6, (KG.out.keep hz).cell 5, hz⟩
  have HZw4 := Lib.hid KZ.out.lt
  have HSw4 := Lib.hid HB.out.size
  have A0 : Below w4.heap.size w4 w4.drew := (Below.refl _ _).drew
  go_cut [12, 7] (fun sL s7 wx => s7 = .int .i64 0 ∧ ∃ (F : Option Addr) (v : Nat), sL = .slice F b v ∧ Hid (Cells wx F b (Dg fun i => (ur c b q2 c).2.getD i 0)) ∧ Hid (Fresh w4.heap.size F) ∧ Hid (b ≤ v) ∧ Hid (Below w4.heap.size w4 wx))
  case first =>
    go_region_held3 (fun w' => w'.cell? ⟨gb, 6, none⟩ = some (.int .i64 (c : Int)) ∧ w'.cell? ⟨gb, 5, none⟩ = some (.int .i64 (b : Int)) ∧ Below w4.heap.size w4 w')
      (first | exact HALL.out _ (by assumption))
      (first
        | (go_at_call 20; (with_reducible refine (HOF.out _ ?_).mono ?_); (first | assumption); rintro e5 w5 ⟨⟨E5, u5, rfl, hE5, fE5, gE5⟩, t5⟩; have h5 := HALL.out _ t5)
        | fail)
    all_goals
      go_wp2_with fail
      go_meet
      case rel => exact ⟨rfl, E5, u5, rfl, Lib.hid hE5, Lib.hid fE5, Lib.hid gE5, Lib.hid t5⟩
  clear HOF HALL A0
  obtain ⟨rfl, F, v, rfl, HF, HFF, HFU, HBX⟩ := hcut
  replace HB := Lib.hid (Below.on HB.out HBX.out)
  replace KG := Lib.hid (KG.out.keep HBX.out)
  replace KZ := Lib.hid (KZ.out.keep HBX.out)
  replace HE := Lib.hid (HE.out.below HBX.out)
  clear HBX
  rename World => w6
  have z0 : w6.cell? ⟨zb, 0, none⟩ = some (.slice none 0 0) := KZ.out.cell 0
  have z1 : w6.cell? ⟨zb, 1, none⟩ = some (.slice none 0 0) := KZ.out.cell 1
  have f0 := KZ.out.frozen 0
  have f1 := KZ.out.frozen 1
  go_wp2
  refine bodyPost_ret (v := .tuple #[.agg #[.slice E m u, .slice F b v], .int .i64 0]) (by simp [results, Tryz.results7, go_sem, z0, z1]) rfl ?_
  exact ⟨⟨E, F, u, v, rfl, (HE.out.set_ HEF.out HZw2.out _ _).set_ HEF.out HZw2.out _ _, (HF.out.set_ HFF.out HZw4.out _ _).set_ HFF.out HZw4.out _ _, HEF.out.mono HSw2.out, HFF.out.mono HSw4.out, HEU.out, HFU.out⟩, (HB.out.setCell (p := ⟨zb, 0, none⟩) HZ0.out _).setCell (p := ⟨zb, 1, none⟩) HZ0.out _⟩

end Tp
end Go.Proofs.YtdcmpnjhomhhiaaGreat
