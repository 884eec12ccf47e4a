/- Tiers of a tiny game of TopOdds, and the walks of checkChoose, checkTier, covers, checkAddons, checkTiers, Check. -/
import Derived.Test.YtdcmpnjhomhhiaaGreatTopObj
set_option linter.unusedVariables false
namespace Go.Proofs.YtdcmpnjhomhhiaaGreat
open Go.RowKit
namespace Tp
abbrev TT : TypeId := 54
/-- A tier of i numbers and j bonus numbers. -/
def tt (i j : Nat) : Array Value := #[.int .i64 (i : Int), .int .i64 (j : Int), .int .i64 0, .int .i64 0, .int .i64 1, .int .i64 10]
theorem box2 (w : World) (t u : TypeId) (a b : Array Value) : Fr.Bs w ((w.alloc (.cells a t)).alloc (.cells b u)) [(w.heap.size + 1, u, b), (w.heap.size, t, a)] := by
  have h := ((Fr.Bs.nil w).alloc t a).alloc u b
  have e : (w.alloc (.cells a t)).heap.size = w.heap.size + 1 := Array.size_push ..
  rw [e] at h
  exact h
theorem box3 (w : World) (t u v : TypeId) (a b c : Array Value) : Fr.Bs w (((w.alloc (.cells a t)).alloc (.cells b u)).alloc (.cells c v)) [(w.heap.size + 1 + 1, v, c), (w.heap.size + 1, u, b), (w.heap.size, t, a)] := by
  have h := (box2 w t u a b).alloc v c
  have e : ((w.alloc (.cells a t)).alloc (.cells b u)).heap.size = w.heap.size + 1 + 1 := by
    rw [show ((w.alloc (.cells a t)).alloc (.cells b u)).heap.size = (w.alloc (.cells a t)).heap.size + 1 from Array.size_push .., show (w.alloc (.cells a t)).heap.size = w.heap.size + 1 from Array.size_push ..]
  rw [e] at h
  exact h
set_option maxHeartbeats 8000000 in
set_option maxRecDepth 100000 in
theorem choose_tt (w : World) {m n b c x : Nat} {D : Option Addr} {T k : Nat} {i j : Nat} (hi : i ≤ m) (hj : j ≤ b) (hm : m ≤ 3) (hb : b ≤ 1) (h0 : 0 < i + j) : Calls Tryz.prog 73 #[.agg (tg m n b c x D T k), .agg (tt i j)] w fun e w' => e = .returned (.int .i64 0) ∧ Below w.heap.size w w' := by
  have hbb : (((i : Int) == 0) = false) ∨ (((i : Int) == 0) = true ∧ ((j : Int) == 0) = false) := by
    by_cases h : i = 0
    · exact .inr ⟨by rw [h]; rfl, beq_eq_false_iff_ne.mpr (by omega)⟩
    · exact .inl (beq_eq_false_iff_ne.mpr (by omega))
  clear h0
  rcases hbb with hbq | ⟨hbq, hbr⟩
  all_goals
    have HW := Lib.hid (fun (w : World) (n a b : Int) (h : a ≤ n ∧ n ≤ b) => within_yes w h)
    have BS0 := Lib.hid (box2 w TG TT (tg m n b c x D T k) (tt i j))
    unfold tg tt at BS0 ⊢
    go_enter Tryz.func73, Tryz.ntmps73
    go_upto_region 1 with (fail)
    obtain ⟨wa, hwa⟩ : ∃ wa, wa = ((w.alloc (.cells #[.string lotto, .int .i64 1, .int .i64 200, .int .i64 (m : Int), .int .i64 (n : Int), .int .i64 (b : Int), .int .i64 (c : Int), .int .i64 (x : Int), .int .i64 4, .int .i64 (m : Int), .int .i64 32, .int .i64 1230, .int .i64 30, .int .i64 15, .int .i64 90, .int .i64 5000, .int .i64 0, .int .i64 1, .int .i64 0, .int .i64 0, .slice none 0 0, .slice D T k] TG)).alloc (.cells #[.int .i64 (i : Int), .int .i64 (j : Int), .int .i64 0, .int .i64 0, .int .i64 1, .int .i64 10] TT)) := ⟨_, rfl⟩
    change Code.wp _ _ _ _ ((w.alloc (.cells #[.string lotto, .int .i64 1, .int .i64 200, .int .i64 (m : Int), .int .i64 (n : Int), .int .i64 (b : Int), .int .i64 (c : Int), .int .i64 (x : Int), .int .i64 4, .int .i64 (m : Int), .int .i64 32, .int .i64 1230, .int .i64 30, .int .i64 15, .int .i64 90, .int .i64 5000, .int .i64 0, .int .i64 1, .int .i64 0, .int .i64 0, .slice none 0 0, .slice D T k] TG)).alloc (.cells #[.int .i64 (i : Int), .int .i64 (j : Int), .int .i64 0, .int .i64 0, .int .i64 1, .int .i64 10] TT))
    rw [← hwa] at BS0 ⊢
    have HB := Lib.hid BS0.out.below
    obtain ⟨_, lg, kg⟩ := BS0.out.get (.tail _ (.head _))
    obtain ⟨_, lp, kp⟩ := BS0.out.get (.head _)
    obtain ⟨pb, hpb⟩ : ∃ g, g = w.heap.size + 1 := ⟨_, rfl⟩
    rw [← hpb] at kp lp
    rw [show (Value.pointer (some ⟨w.heap.size + 1, 0, none⟩)) = .pointer (some ⟨pb, 0, none⟩) by rw [hpb]]
    obtain ⟨gb, hgb⟩ : ∃ g, g = w.heap.size := ⟨_, rfl⟩
    rw [← hgb] at kg lg
    rw [show (Value.pointer (some ⟨w.heap.size, 0, none⟩)) = .pointer (some ⟨gb, 0, none⟩) by rw [hgb]]
    have gq3 : wa.cell? ⟨gb, 3, none⟩ = some (.int .i64 (m : Int)) := kg.cell 3
    have gq5 : wa.cell? ⟨gb, 5, none⟩ = some (.int .i64 (b : Int)) := kg.cell 5
    have gq7 : wa.cell? ⟨gb, 7, none⟩ = some (.int .i64 (x : Int)) := kg.cell 7
    have pq0 : wa.cell? ⟨pb, 0, none⟩ = some (.int .i64 (i : Int)) := kp.cell 0
    have pq1 : wa.cell? ⟨pb, 1, none⟩ = some (.int .i64 (j : Int)) := kp.cell 1
    have pq2 : wa.cell? ⟨pb, 2, none⟩ = some (.int .i64 0) := kp.cell 2
    have pq3 : wa.cell? ⟨pb, 3, none⟩ = some (.int .i64 0) := kp.cell 3
    clear hwa hgb hpb
    clear kg kp BS0
    go_wp2_with fail
    refine (HW.out _ _ _ _ (by omega)).mono ?_
    rintro e w1 ⟨rfl, hw1⟩
    obtain rfl := hw1
    go_wp2_with fail
    refine (HW.out _ _ _ _ (by omega)).mono ?_
    rintro e w1 ⟨rfl, hw1⟩
    obtain rfl := hw1
    go_wp2_with fail
    refine (HW.out _ _ _ _ (by omega)).mono ?_
    rintro e w1 ⟨rfl, hw1⟩
    obtain rfl := hw1
    go_wp2
    go_ret
    exact ⟨rfl, HB.out⟩
set_option maxHeartbeats 8000000 in
set_option maxRecDepth 100000 in
theorem tier_tt (w : World) {m n b c x : Nat} {D : Option Addr} {T k : Nat} {i j : Nat} (hi : i ≤ m) (hj : j ≤ b) (hm : m ≤ 3) (hb : b ≤ 1) (h0 : 0 < i + j) : Calls Tryz.prog 52 #[.agg (tg m n b c x D T k), .agg (tt i j)] w fun e w' => e = .returned (.int .i64 0) ∧ Below w.heap.size w w' := by
  have HC := Lib.hid (fun (w : World) => choose_tt (n := n) (c := c) (x := x) (D := D) (T := T) (k := k) w hi hj hm hb h0)
  unfold tg tt at HC
  clear hi hj hm hb h0
  have HW := Lib.hid (fun (w : World) (n a b : Int) (h : a ≤ n ∧ n ≤ b) => within_yes w h)
  have BS0 := Lib.hid (box2 w TG TT (tg m n b c x D T k) (tt i j))
  unfold tg tt at BS0 ⊢
  go_enter Tryz.func52, Tryz.ntmps52
  go_upto_region 1 with (fail)
  obtain ⟨wa, hwa⟩ : ∃ wa, wa = ((w.alloc (.cells #[.string lotto, .int .i64 1, .int .i64 200, .int .i64 (m : Int), .int .i64 (n : Int), .int .i64 (b : Int), .int .i64 (c : Int), .int .i64 (x : Int), .int .i64 4, .int .i64 (m : Int), .int .i64 32, .int .i64 1230, .int .i64 30, .int .i64 15, .int .i64 90, .int .i64 5000, .int .i64 0, .int .i64 1, .int .i64 0, .int .i64 0, .slice none 0 0, .slice D T k] TG)).alloc (.cells #[.int .i64 (i : Int), .int .i64 (j : Int), .int .i64 0, .int .i64 0, .int .i64 1, .int .i64 10] TT)) := ⟨_, rfl⟩
  change Code.wp _ _ _ _ ((w.alloc (.cells #[.string lotto, .int .i64 1, .int .i64 200, .int .i64 (m : Int), .int .i64 (n : Int), .int .i64 (b : Int), .int .i64 (c : Int), .int .i64 (x : Int), .int .i64 4, .int .i64 (m : Int), .int .i64 32, .int .i64 1230, .int .i64 30, .int .i64 15, .int .i64 90, .int .i64 5000, .int .i64 0, .int .i64 1, .int .i64 0, .int .i64 0, .slice none 0 0, .slice D T k] TG)).alloc (.cells #[.int .i64 (i : Int), .int .i64 (j : Int), .int .i64 0, .int .i64 0, .int .i64 1, .int .i64 10] TT))
  rw [← hwa] at BS0 ⊢
  have HB := Lib.hid BS0.out.below
  obtain ⟨_, lg, kg⟩ := BS0.out.get (.tail _ (.head _))
  obtain ⟨_, lp, kp⟩ := BS0.out.get (.head _)
  obtain ⟨pb, hpb⟩ : ∃ g, g = w.heap.size + 1 := ⟨_, rfl⟩
  rw [← hpb] at kp lp
  rw [show (Value.pointer (some ⟨w.heap.size + 1, 0, none⟩)) = .pointer (some ⟨pb, 0, none⟩) by rw [hpb]]
  obtain ⟨gb, hgb⟩ : ∃ g, g = w.heap.size := ⟨_, rfl⟩
  rw [← hgb] at kg lg
  rw [show (Value.pointer (some ⟨w.heap.size, 0, none⟩)) = .pointer (some ⟨gb, 0, none⟩) by rw [hgb]]
  have gq1 : wa.cell? ⟨gb, 1, none⟩ = some (.int .i64 1) := kg.cell 1
  have pq0 : wa.cell? ⟨pb, 0, none⟩ = some (.int .i64 (i : Int)) := kp.cell 0
  have pq1 : wa.cell? ⟨pb, 1, none⟩ = some (.int .i64 (j : Int)) := kp.cell 1
  have pq2 : wa.cell? ⟨pb, 2, none⟩ = some (.int .i64 0) := kp.cell 2
  have pq3 : wa.cell? ⟨pb, 3, none⟩ = some (.int .i64 0) := kp.cell 3
  have pq4 : wa.cell? ⟨pb, 4, none⟩ = some (.int .i64 1) := kp.cell 4
  have pq5 : wa.cell? ⟨pb, 5, none⟩ = some (.int .i64 10) := kp.cell 5
  clear hwa hgb hpb
  have KG := Lib.hid kg
  have KP := Lib.hid kp
  clear kg kp BS0
  go_wp2_with (refine wpList_load_row rfl TG _ rfl gb rfl TG _ (0, 0) _ KG.out Tryz.underlying27 rfl (by kernel_rfl) ?_)
  go_wp2_with fail
  with_reducible refine (HC.out _).mono ?_
  rintro e w1 ⟨rfl, hb1⟩
  replace HB := Lib.hid (Below.on HB.out hb1)
  replace KP := Lib.hid (KP.out.keep hb1)
  clear KG gq1 hb1 pq0 pq1 pq2 pq3 pq4 pq5
  have pq4 : w1.cell? ⟨pb, 4, none⟩ = some (.int .i64 1) := KP.out.cell 4
  have pq5 : w1.cell? ⟨pb, 5, none⟩ = some (.int .i64 10) := KP.out.cell 5
  clear KP
  go_wp2_with fail
  refine (HW.out _ _ _ _ (by omega)).mono ?_
  rintro e w2 ⟨rfl, hw1⟩
  obtain rfl := hw1
  go_wp2
  go_ret
  exact ⟨rfl, HB.out⟩
set_option maxHeartbeats 8000000 in
set_option maxRecDepth 100000 in
theorem covers_tt (w : World) {m n b c x : Nat} {D : Option Addr} {T k : Nat} {i j i' j' : Nat} (h : i' < i ∨ i' = i ∧ j' < j) : Calls Tryz.prog 53 #[.agg (tg m n b c x D T k), .agg (tt i j), .agg (tt i' j')] w fun e w' => e = .returned (.bool false) ∧ Below w.heap.size w w' := by
  have hbb : (((i : Int) ≤ (i' : Int)) = False) ∨ (((i : Int) ≤ (i' : Int)) ∧ ((j : Int) ≤ (j' : Int)) = False) := by
    rcases h with h | ⟨h1, h2⟩
    · exact .inl (eq_false (by omega))
    · exact .inr ⟨by omega, eq_false (by omega)⟩
  clear h
  rcases hbb with hbq | ⟨hbq, hbr⟩
  all_goals
    have BS0 := Lib.hid (box3 w TG TT TT (tg m n b c x D T k) (tt i j) (tt i' j'))
    unfold tg tt at BS0 ⊢
    go_enter Tryz.func53, Tryz.ntmps53
    go_upto_region 1 with (fail)
    obtain ⟨wa, hwa⟩ : ∃ wa, wa = (((w.alloc (.cells #[.string lotto, .int .i64 1, .int .i64 200, .int .i64 (m : Int), .int .i64 (n : Int), .int .i64 (b : Int), .int .i64 (c : Int), .int .i64 (x : Int), .int .i64 4, .int .i64 (m : Int), .int .i64 32, .int .i64 1230, .int .i64 30, .int .i64 15, .int .i64 90, .int .i64 5000, .int .i64 0, .int .i64 1, .int .i64 0, .int .i64 0, .slice none 0 0, .slice D T k] TG)).alloc (.cells #[.int .i64 (i : Int), .int .i64 (j : Int), .int .i64 0, .int .i64 0, .int .i64 1, .int .i64 10] TT)).alloc (.cells #[.int .i64 (i' : Int), .int .i64 (j' : Int), .int .i64 0, .int .i64 0, .int .i64 1, .int .i64 10] TT)) := ⟨_, rfl⟩
    change Code.wp _ _ _ _ (((w.alloc (.cells #[.string lotto, .int .i64 1, .int .i64 200, .int .i64 (m : Int), .int .i64 (n : Int), .int .i64 (b : Int), .int .i64 (c : Int), .int .i64 (x : Int), .int .i64 4, .int .i64 (m : Int), .int .i64 32, .int .i64 1230, .int .i64 30, .int .i64 15, .int .i64 90, .int .i64 5000, .int .i64 0, .int .i64 1, .int .i64 0, .int .i64 0, .slice none 0 0, .slice D T k] TG)).alloc (.cells #[.int .i64 (i : Int), .int .i64 (j : Int), .int .i64 0, .int .i64 0, .int .i64 1, .int .i64 10] TT)).alloc (.cells #[.int .i64 (i' : Int), .int .i64 (j' : Int), .int .i64 0, .int .i64 0, .int .i64 1, .int .i64 10] TT))
    rw [← hwa] at BS0 ⊢
    have HB := Lib.hid BS0.out.below
    obtain ⟨_, lg, kg⟩ := BS0.out.get (.tail _ (.tail _ (.head _)))
    obtain ⟨_, lp, kp⟩ := BS0.out.get (.tail _ (.head _))
    obtain ⟨_, lr, kr⟩ := BS0.out.get (.head _)
    obtain ⟨rb, hrb⟩ : ∃ g, g = w.heap.size + 1 + 1 := ⟨_, rfl⟩
    rw [← hrb] at kr lr
    rw [show (Value.pointer (some ⟨w.heap.size + 1 + 1, 0, none⟩)) = .pointer (some ⟨rb, 0, none⟩) by rw [hrb]]
    obtain ⟨pb, hpb⟩ : ∃ g, g = w.heap.size + 1 := ⟨_, rfl⟩
    rw [← hpb] at kp lp
    rw [show (Value.pointer (some ⟨w.heap.size + 1, 0, none⟩)) = .pointer (some ⟨pb, 0, none⟩) by rw [hpb]]
    obtain ⟨gb, hgb⟩ : ∃ g, g = w.heap.size := ⟨_, rfl⟩
    rw [← hgb] at kg lg
    rw [show (Value.pointer (some ⟨w.heap.size, 0, none⟩)) = .pointer (some ⟨gb, 0, none⟩) by rw [hgb]]
    have gq1 : wa.cell? ⟨gb, 1, none⟩ = some (.int .i64 1) := kg.cell 1
    have pq0 : wa.cell? ⟨pb, 0, none⟩ = some (.int .i64 (i : Int)) := kp.cell 0
    have pq1 : wa.cell? ⟨pb, 1, none⟩ = some (.int .i64 (j : Int)) := kp.cell 1
    have pq2 : wa.cell? ⟨pb, 2, none⟩ = some (.int .i64 0) := kp.cell 2
    have rq0 : wa.cell? ⟨rb, 0, none⟩ = some (.int .i64 (i' : Int)) := kr.cell 0
    have rq1 : wa.cell? ⟨rb, 1, none⟩ = some (.int .i64 (j' : Int)) := kr.cell 1
    have rq2 : wa.cell? ⟨rb, 2, none⟩ = some (.int .i64 0) := kr.cell 2
    clear hwa hgb hpb hrb
    clear kg kp kr BS0
    go_wp2
    go_ret
    exact ⟨rfl, HB.out⟩
set_option maxHeartbeats 8000000 in
set_option maxRecDepth 100000 in
theorem addons_none (w : World) : Calls Tryz.prog 32 #[.slice none 0 0] w fun e w' => e = .returned (.int .i64 0) ∧ Below w.heap.size w w' := by
  have hmm := @run_makeMap Tryz.prog
  go_enter Tryz.func32, Tryz.ntmps32
  go_wp2
  go_loopw [15] (fun s wr => s = .int .i64 0 ∧ Below w.heap.size w wr) (fun _ _ => 0)
  case atStart => exact ⟨rfl, ((Below.refl _ _).alloc (Nat.le_refl _) _).alloc (by rw [World.size_alloc]; omega) _⟩
  case round =>
    obtain ⟨rfl, hb⟩ := hrel
    go_wp2
    go_ret
    exact ⟨rfl, hb⟩
/-- Tiers in memory: six cells each. -/
def Six (P Q : Nat → Nat) : Nat → Value := fun j => (tt (P (j / 6)) (Q (j / 6))).getD (j % 6) (.bool false)
theorem Six_at (P Q : Nat → Nat) (k i : Nat) (hi : i < 6) : Six P Q (k * 6 + i) = (tt (P k) (Q k)).getD i (.bool false) := by
  unfold Six
  rw [show (k * 6 + i) / 6 = k by omega, show (k * 6 + i) % 6 = i by omega]
theorem _root_.Go.Proofs.YtdcmpnjhomhhiaaGreat.Cells.six {w : World} {D : Option Addr} {T : Nat} {P Q : Nat → Nat} (h : Cells w D (T * 6) (Six P Q)) {k : Nat} (hk : k < T) :
    ∃ b off, D = some ⟨b, off, none⟩ ∧ b < w.heap.size ∧ w.cell? ⟨b, off + k * 6, none⟩ = some (.int .i64 (P k : Int)) ∧ w.cell? ⟨b, off + k * 6 + 1, none⟩ = some (.int .i64 (Q k : Int)) ∧ w.cell? ⟨b, off + k * 6 + 2, none⟩ = some (.int .i64 0) ∧ w.cell? ⟨b, off + k * 6 + 3, none⟩ = some (.int .i64 0) ∧ w.cell? ⟨b, off + k * 6 + 4, none⟩ = some (.int .i64 1) ∧ w.cell? ⟨b, off + k * 6 + 5, none⟩ = some (.int .i64 10) := by
  obtain ⟨b, off, e, hlt, hc⟩ := h (by omega)
  exact ⟨b, off, e, hlt, (hc (k * 6) (by omega)).trans (by rw [show k * 6 = k * 6 + 0 by omega, Six_at P Q k 0 (by omega)]; rfl), (hc (k * 6 + 1) (by omega)).trans (by rw [Six_at P Q k 1 (by omega)]; rfl), (hc (k * 6 + 2) (by omega)).trans (by rw [Six_at P Q k 2 (by omega)]; rfl),
    (hc (k * 6 + 3) (by omega)).trans (by rw [Six_at P Q k 3 (by omega)]; rfl), (hc (k * 6 + 4) (by omega)).trans (by rw [Six_at P Q k 4 (by omega)]; rfl), (hc (k * 6 + 5) (by omega)).trans (by rw [Six_at P Q k 5 (by omega)]; rfl)⟩
set_option maxHeartbeats 8000000 in
set_option maxRecDepth 100000 in
theorem tiers_tg (w : World) {m n b c x : Nat} {D : Option Addr} {T k : Nat} {P Q : Nat → Nat} (hD : Cells w D (T * 6) (Six P Q)) (hT : 1 ≤ T) (hT2 : T ≤ 7) (hk : T ≤ k) (hm : m ≤ 3) (hb : b ≤ 1) (hP : ∀ i, i < T → P i ≤ m ∧ Q i ≤ b ∧ 0 < P i + Q i) (hd : ∀ j i, j < i → i < T → P i < P j ∨ P i = P j ∧ Q i < Q j) : Calls Tryz.prog 33 #[.agg (tg m n b c x D T k)] w fun e w' => e = .returned (.int .i64 0) ∧ Below w.heap.size w w' := by
  have HC := Lib.hid (fun (w : World) (i : Nat) (hi : i < T) => tier_tt (n := n) (c := c) (x := x) (D := D) (T := T) (k := k) w (hP i hi).1 (hP i hi).2.1 hm hb (hP i hi).2.2)
  have HV := Lib.hid (fun (w : World) (j i : Nat) (hj : j < i) (hi : i < T) => covers_tt (m := m) (b := b) (n := n) (c := c) (x := x) (D := D) (T := T) (k := k) w (hd j i hj hi))
  unfold tg tt at HC HV
  have HD := Lib.hid hD
  clear hP hd hD hm hb
  have HW := Lib.hid (fun (w : World) (n a b : Int) (h : a ≤ n ∧ n ≤ b) => within_yes w h)
  have BS0 := Lib.hid ((Fr.Bs.nil w).alloc TG (tg m n b c x D T k))
  unfold tg at BS0 ⊢
  go_enter Tryz.func33, Tryz.ntmps33
  go_upto_region 1 with (fail)
  obtain ⟨wa, hwa⟩ : ∃ wa, wa = (w.alloc (.cells #[.string lotto, .int .i64 1, .int .i64 200, .int .i64 (m : Int), .int .i64 (n : Int), .int .i64 (b : Int), .int .i64 (c : Int), .int .i64 (x : Int), .int .i64 4, .int .i64 (m : Int), .int .i64 32, .int .i64 1230, .int .i64 30, .int .i64 15, .int .i64 90, .int .i64 5000, .int .i64 0, .int .i64 1, .int .i64 0, .int .i64 0, .slice none 0 0, .slice D T k] TG)) := ⟨_, rfl⟩
  change Code.wp _ _ _ _ (w.alloc (.cells #[.string lotto, .int .i64 1, .int .i64 200, .int .i64 (m : Int), .int .i64 (n : Int), .int .i64 (b : Int), .int .i64 (c : Int), .int .i64 (x : Int), .int .i64 4, .int .i64 (m : Int), .int .i64 32, .int .i64 1230, .int .i64 30, .int .i64 15, .int .i64 90, .int .i64 5000, .int .i64 0, .int .i64 1, .int .i64 0, .int .i64 0, .slice none 0 0, .slice D T k] TG))
  rw [← hwa] at BS0 ⊢
  have HB := Lib.hid BS0.out.below
  obtain ⟨_, lg, kg⟩ := BS0.out.get (.head _)
  obtain ⟨gb, hgb⟩ : ∃ g, g = w.heap.size := ⟨_, rfl⟩
  rw [← hgb] at kg lg
  rw [show (Value.pointer (some ⟨w.heap.size, 0, none⟩)) = .pointer (some ⟨gb, 0, none⟩) by rw [hgb]]
  have gq21 : wa.cell? ⟨gb, 21, none⟩ = some (.slice D T k) := kg.cell 21
  clear hwa hgb
  have KG := Lib.hid kg
  have HL := Lib.hid lg
  clear kg lg
  go_step3
  go_wp2_with fail
  refine (HW.out _ _ _ _ (by omega)).mono ?_
  rintro e w2 ⟨rfl, hw1⟩
  obtain rfl := hw1
  clear HW
  go_wp2
  go_step3
  go_wp2
  go_loopw [3, 16] (fun e i wr => ∃ q : Nat, q ≤ T ∧ e = .int .i64 0 ∧ i = .int .i64 (q : Int) ∧ Hid (Below wa.heap.size wa wr)) (fun _ i _ => T - (intOf i).toNat)
  case atStart => exact ⟨0, Nat.zero_le _, rfl, rfl, Lib.hid (Below.refl _ _)⟩
  case round =>
    obtain ⟨q, hq, rfl, rfl, HBW⟩ := hrel
    by_cases hqT : q < T
    · obtain ⟨bd, od, hde, hdlt, d0, d1, d2, d3, d4, d5⟩ := (HD.out.below (Below.on HB.out HBW.out)).six hqT
      subst hde
      have HQT := Lib.hid hqT
      go_upto_region 7 with (fail)
      obtain ⟨wb, hwb⟩ : ∃ wb, wb = wr.alloc (.cells #[.int .i64 (P q : Int), .int .i64 (Q q : Int), .int .i64 0, .int .i64 0, .int .i64 1, .int .i64 10] TT) := ⟨_, rfl⟩
      change Code.wp _ _ _ _ (wr.alloc (.cells #[.int .i64 (P q : Int), .int .i64 (Q q : Int), .int .i64 0, .int .i64 0, .int .i64 1, .int .i64 10] TT))
      obtain ⟨tb, htb⟩ : ∃ g, g = wr.heap.size := ⟨_, rfl⟩
      rw [← hwb, show (Value.pointer (some ⟨wr.heap.size, 0, none⟩)) = .pointer (some ⟨tb, 0, none⟩) by rw [htb]]
      have BT : Hid (Fr.Bs wr wb [(tb, TT, #[.int .i64 (P q : Int), .int .i64 (Q q : Int), .int .i64 0, .int .i64 0, .int .i64 1, .int .i64 10])]) := by
        rw [hwb, htb]
        exact Lib.hid ((Fr.Bs.nil wr).alloc TT _)
      have HB1 := Lib.hid (Below.on HBW.out BT.out.below)
      have KG1 := Lib.hid (KG.out.keep HB1.out)
      obtain ⟨_, lt, kt⟩ := BT.out.get (.head _)
      have p0 : wb.cell? ⟨tb, 0, none⟩ = some (.int .i64 (P q : Int)) := kt.cell 0
      have p1 : wb.cell? ⟨tb, 1, none⟩ = some (.int .i64 (Q q : Int)) := kt.cell 1
      have p2 : wb.cell? ⟨tb, 2, none⟩ = some (.int .i64 0) := kt.cell 2
      have p3 : wb.cell? ⟨tb, 3, none⟩ = some (.int .i64 0) := kt.cell 3
      have p4 : wb.cell? ⟨tb, 4, none⟩ = some (.int .i64 1) := kt.cell 4
      have p5 : wb.cell? ⟨tb, 5, none⟩ = some (.int .i64 10) := kt.cell 5
      clear kt hwb htb d0 d1 d2 d3 d4 d5
      go_wp2_with (refine wpList_load_row rfl TG _ rfl gb rfl TG _ (0, 0) _ KG1.out Tryz.underlying27 rfl (by kernel_rfl) ?_)
      go_wp2_with fail
      with_reducible refine (HC.out _ q HQT.out).mono ?_
      rintro e w1 ⟨rfl, hb1⟩
      have HB2 := Lib.hid (Below.on HB1.out hb1)
      have BT1 := Lib.hid (BT.out.on hb1)
      have KG2 := Lib.hid (KG.out.keep HB2.out)
      clear hb1 p0 p1 p2 p3 p4 p5 KG1 HB1 lt
      have r21 : w1.cell? ⟨gb, 21, none⟩ = some (.slice (some ⟨bd, od, none⟩) T k) := KG2.out.cell 21
      go_wp2
      go_loopw [3, 31] (fun e i wr2 => ∃ r : Nat, r ≤ q ∧ e = .int .i64 0 ∧ i = .int .i64 (r : Int) ∧ Hid (Below w1.heap.size w1 wr2)) (fun _ i _ => q - (intOf i).toNat)
      case atStart => exact ⟨0, Nat.zero_le _, rfl, rfl, Lib.hid (Below.refl _ _)⟩
      case round =>
        obtain ⟨r, hr, rfl, rfl, HBW2⟩ := hrel
        clear r21
        rename World => wr2
        by_cases hrq : r < q
        · obtain ⟨bd', od', hde, hdlt, d0, d1, d2, d3, d4, d5⟩ := (HD.out.below (Below.on HB.out (Below.on HB2.out HBW2.out))).six (Nat.lt_trans hrq hqT)
          injection hde with hde
          injection hde with hde1 hde2
          subst hde1 hde2
          have HRQ := Lib.hid hrq
          go_upto_region 12 with (fail)
          obtain ⟨wc, hwc⟩ : ∃ wc, wc = wr2.alloc (.cells #[.int .i64 (P r : Int), .int .i64 (Q r : Int), .int .i64 0, .int .i64 0, .int .i64 1, .int .i64 10] TT) := ⟨_, rfl⟩
          change Code.wp _ _ _ _ (wr2.alloc (.cells #[.int .i64 (P r : Int), .int .i64 (Q r : Int), .int .i64 0, .int .i64 0, .int .i64 1, .int .i64 10] TT))
          obtain ⟨ub, hub⟩ : ∃ g, g = wr2.heap.size := ⟨_, rfl⟩
          rw [← hwc, show (Value.pointer (some ⟨wr2.heap.size, 0, none⟩)) = .pointer (some ⟨ub, 0, none⟩) by rw [hub]]
          have BU : Hid (Fr.Bs wr2 wc [(ub, TT, #[.int .i64 (P r : Int), .int .i64 (Q r : Int), .int .i64 0, .int .i64 0, .int .i64 1, .int .i64 10])]) := by
            rw [hwc, hub]
            exact Lib.hid ((Fr.Bs.nil wr2).alloc TT _)
          have HB3 := Lib.hid (Below.on HBW2.out BU.out.below)
          have KG3 := Lib.hid (KG2.out.keep HB3.out)
          have BT3 := Lib.hid (BT1.out.on HB3.out)
          obtain ⟨_, lt, kt⟩ := BU.out.get (.head _)
          have s0 : wc.cell? ⟨ub, 0, none⟩ = some (.int .i64 (P r : Int)) := kt.cell 0
          have s1 : wc.cell? ⟨ub, 1, none⟩ = some (.int .i64 (Q r : Int)) := kt.cell 1
          have s2 : wc.cell? ⟨ub, 2, none⟩ = some (.int .i64 0) := kt.cell 2
          have s3 : wc.cell? ⟨ub, 3, none⟩ = some (.int .i64 0) := kt.cell 3
          have s4 : wc.cell? ⟨ub, 4, none⟩ = some (.int .i64 1) := kt.cell 4
          have s5 : wc.cell? ⟨ub, 5, none⟩ = some (.int .i64 10) := kt.cell 5
          obtain ⟨_, lt2, kt2⟩ := BT3.out.get (.head _)
          have p0 : wc.cell? ⟨tb, 0, none⟩ = some (.int .i64 (P q : Int)) := kt2.cell 0
          have p1 : wc.cell? ⟨tb, 1, none⟩ = some (.int .i64 (Q q : Int)) := kt2.cell 1
          have p2 : wc.cell? ⟨tb, 2, none⟩ = some (.int .i64 0) := kt2.cell 2
          have p3 : wc.cell? ⟨tb, 3, none⟩ = some (.int .i64 0) := kt2.cell 3
          have p4 : wc.cell? ⟨tb, 4, none⟩ = some (.int .i64 1) := kt2.cell 4
          have p5 : wc.cell? ⟨tb, 5, none⟩ = some (.int .i64 10) := kt2.cell 5
          clear kt kt2 hwc hub d0 d1 d2 d3 d4 d5
          go_wp2_with (refine wpList_load_row rfl TG _ rfl gb rfl TG _ (0, 0) _ KG3.out Tryz.underlying27 rfl (by kernel_rfl) ?_)
          go_wp2_with fail
          with_reducible refine (HV.out _ r q HRQ.out HQT.out).mono ?_
          rintro e w3 ⟨rfl, hb3⟩
          have HB4 := Lib.hid (Below.on HB3.out hb3)
          clear hb3 p0 p1 p2 p3 p4 p5 s0 s1 s2 s3 s4 s5
          go_wp2
          go_roundw
          case rel => exact ⟨r + 1, by omega, rfl, by first | rfl | simp, HB4⟩
          case measure => simp [intOf]; omega
        · go_wp2
          go_roundw
          case rel => exact ⟨q + 1, by omega, rfl, by first | rfl | simp, Lib.hid (Below.on HB2.out HBW2.out)⟩
          case measure => simp [intOf]; omega
    · go_wp2
      (try rw [Exit.noGoto_ret])
      go_ret
      exact ⟨rfl, Below.on HB.out HBW.out⟩
set_option maxHeartbeats 8000000 in
set_option maxRecDepth 100000 in
theorem check_tg (w : World) {m n b c x : Nat} {D : Option Addr} {T k : Nat} {P Q : Nat → Nat} (hm0 : 1 ≤ m) (hm : m ≤ 3) (hmx : m + x ≤ n) (hn : n ≤ 7) (hx : x ≤ 1) (hb : b = 0 ∧ c = 0 ∨ b = 1 ∧ 1 ≤ c ∧ c ≤ 3) (hD : Cells w D (T * 6) (Six P Q)) (hT : 1 ≤ T) (hT2 : T ≤ 7) (hk : T ≤ k) (hP : ∀ i, i < T → P i ≤ m ∧ Q i ≤ b ∧ 0 < P i + Q i) (hd : ∀ j i, j < i → i < T → P i < P j ∨ P i = P j ∧ Q i < Q j) : Calls Tryz.prog 15 #[.agg (tg m n b c x D T k)] w fun e w' => e = .returned (.tuple #[.int .i64 0, .string ⟨#[]⟩]) ∧ Below w.heap.size w w' := by
  have HM := Lib.hid (fun (w : World) => matrix_tg (D := D) (T := T) (k := k) w hm0 hm hmx hn hx hb)
  have HE := Lib.hid (fun (w : World) => terms_tg (m := m) (n := n) (b := b) (c := c) (x := x) (D := D) (T := T) (k := k) w)
  have HT := Lib.hid (fun (w : World) (hD : Cells w D (T * 6) (Six P Q)) => tiers_tg (n := n) (c := c) (x := x) w hD hT hT2 hk hm (by omega) hP hd)
  have HN := Lib.hid (fun (w : World) => name_lotto w)
  have HA := Lib.hid (fun (w : World) => addons_none w)
  unfold tg at HM HE HT
  have HD := Lib.hid hD
  clear hP hd hD hb hm0 hm hmx hn hx hT hT2 hk
  have BS0 := Lib.hid ((Fr.Bs.nil w).alloc TG (tg m n b c x D T k))
  unfold tg at BS0 ⊢
  go_enter Tryz.func15, Tryz.ntmps15
  go_upto_region 1 with (fail)
  obtain ⟨wa, hwa⟩ : ∃ wa, wa = (w.alloc (.cells #[.string lotto, .int .i64 1, .int .i64 200, .int .i64 (m : Int), .int .i64 (n : Int), .int .i64 (b : Int), .int .i64 (c : Int), .int .i64 (x : Int), .int .i64 4, .int .i64 (m : Int), .int .i64 32, .int .i64 1230, .int .i64 30, .int .i64 15, .int .i64 90, .int .i64 5000, .int .i64 0, .int .i64 1, .int .i64 0, .int .i64 0, .slice none 0 0, .slice D T k] TG)) := ⟨_, rfl⟩
  change Code.wp _ _ _ _ (w.alloc (.cells #[.string lotto, .int .i64 1, .int .i64 200, .int .i64 (m : Int), .int .i64 (n : Int), .int .i64 (b : Int), .int .i64 (c : Int), .int .i64 (x : Int), .int .i64 4, .int .i64 (m : Int), .int .i64 32, .int .i64 1230, .int .i64 30, .int .i64 15, .int .i64 90, .int .i64 5000, .int .i64 0, .int .i64 1, .int .i64 0, .int .i64 0, .slice none 0 0, .slice D T k] TG))
  rw [← hwa] at BS0 ⊢
  have HB := Lib.hid BS0.out.below
  obtain ⟨_, lg, kg⟩ := BS0.out.get (.head _)
  obtain ⟨gb, hgb⟩ : ∃ g, g = w.heap.size := ⟨_, rfl⟩
  rw [← hgb] at kg lg
  rw [show (Value.pointer (some ⟨w.heap.size, 0, none⟩)) = .pointer (some ⟨gb, 0, none⟩) by rw [hgb]]
  have gq0 : wa.cell? ⟨gb, 0, none⟩ = some (.string lotto) := kg.cell 0
  have gq1 : wa.cell? ⟨gb, 1, none⟩ = some (.int .i64 1) := kg.cell 1
  clear hwa hgb
  have KG := Lib.hid kg
  clear kg BS0
  go_wp2_with fail
  with_reducible refine (HN.out _).mono ?_
  rintro e w1 ⟨rfl, hw1⟩
  obtain rfl := hw1
  go_wp2_with (refine wpList_load_row rfl TG _ rfl gb rfl TG _ (0, 0) _ KG.out Tryz.underlying27 rfl (by kernel_rfl) ?_)
  go_wp2_with fail
  with_reducible refine (HM.out _).mono ?_
  rintro e w1 ⟨rfl, hb1⟩
  replace HB := Lib.hid (Below.on HB.out hb1)
  replace KG := Lib.hid (KG.out.keep hb1)
  clear hb1
  go_wp2_with (refine wpList_load_row rfl TG _ rfl gb rfl TG _ (0, 0) _ KG.out Tryz.underlying27 rfl (by kernel_rfl) ?_)
  go_wp2_with fail
  with_reducible refine (HE.out _).mono ?_
  rintro e w1 ⟨rfl, hb1⟩
  replace HB := Lib.hid (Below.on HB.out hb1)
  replace KG := Lib.hid (KG.out.keep hb1)
  have r20 : w1.cell? ⟨gb, 20, none⟩ = some (.slice none 0 0) := KG.out.cell 20
  clear hb1
  go_wp2_with fail
  with_reducible refine (HA.out _).mono ?_
  rintro e w1 ⟨rfl, hb1⟩
  replace HB := Lib.hid (Below.on HB.out hb1)
  replace KG := Lib.hid (KG.out.keep hb1)
  clear r20
  clear hb1
  go_wp2_with (refine wpList_load_row rfl TG _ rfl gb rfl TG _ (0, 0) _ KG.out Tryz.underlying27 rfl (by kernel_rfl) ?_)
  go_wp2_with fail
  with_reducible refine (HT.out _ (HD.out.below HB.out)).mono ?_
  rintro e w1 ⟨rfl, hb1⟩
  replace HB := Lib.hid (Below.on HB.out hb1)
  replace KG := Lib.hid (KG.out.keep hb1)
  clear hb1
  go_wp2
  go_ret2
  exact ⟨rfl, HB.out⟩
end Tp
end Go.Proofs.YtdcmpnjhomhhiaaGreat
