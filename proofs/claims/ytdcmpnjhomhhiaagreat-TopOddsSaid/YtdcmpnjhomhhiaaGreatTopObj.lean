/- A tiny game of TopOdds as a value, and the walks of rulecheck.within, Name and badTerms on it. -/
import Derived.Test.YtdcmpnjhomhhiaaGreatFaRuns
set_option linter.unusedVariables false
namespace Go.Proofs.YtdcmpnjhomhhiaaGreat
open Go.RowKit
namespace Tp
abbrev TG : TypeId := 27
/-- The text lotto. -/
def lotto : ByteArray := ⟨#[108, 111, 116, 116, 111]⟩
/-- m of n numbers, b of c bonus numbers, x extra balls; the tiers at D. -/
def tg (m n b c x : Nat) (D : Option Addr) (T k : Nat) : Array Value := #[.string lotto, .int .i64 1, .int .i64 200, .int .i64 (m : Int), .int .i64 (n : Int), .int .i64 (b : Int), .int .i64 (c : Int), .int .i64 (x : Int), .int .i64 4, .int .i64 (m : Int), .int .i64 32, .int .i64 1230, .int .i64 30, .int .i64 15, .int .i64 90, .int .i64 5000, .int .i64 0, .int .i64 1, .int .i64 0, .int .i64 0, .slice none 0 0, .slice D T k]
set_option maxHeartbeats 400000 in
theorem within_any (w : World) (n a b : Int) : Calls Tryz.prog 50 #[.int .i64 n, .int .i64 a, .int .i64 b] w fun e w' => e = .returned (.bool (decide (a ≤ n ∧ n ≤ b))) ∧ w = w' := by
  by_cases h1 : a ≤ n
  · by_cases h2 : n ≤ b
    · have HD : Hid (decide (a ≤ n ∧ n ≤ b) = true) := Lib.hid (decide_eq_true ⟨h1, h2⟩)
      go_enter Tryz.func50, Tryz.ntmps50
      go_wp2
      go_ret
      exact ⟨by rw [HD.out]; rfl, rfl⟩
    · have e2 : (n ≤ b) = False := eq_false h2
      have HD : Hid (decide (a ≤ n ∧ n ≤ b) = false) := Lib.hid (decide_eq_false (fun h => h2 h.2))
      clear h2
      go_enter Tryz.func50, Tryz.ntmps50
      go_wp2
      go_ret
      exact ⟨by rw [HD.out]; rfl, rfl⟩
  · have e2 : (a ≤ n) = False := eq_false h1
    have HD : Hid (decide (a ≤ n ∧ n ≤ b) = false) := Lib.hid (decide_eq_false (fun h => h1 h.1))
    clear h1
    go_enter Tryz.func50, Tryz.ntmps50
    go_wp2
    go_ret
    exact ⟨by rw [HD.out]; rfl, rfl⟩
/-- Within its bounds. -/
theorem within_yes (w : World) {n a b : Int} (h : a ≤ n ∧ n ≤ b) : Calls Tryz.prog 50 #[.int .i64 n, .int .i64 a, .int .i64 b] w fun e w' => e = .returned (.bool true) ∧ w = w' := by
  have := within_any w n a b
  rwa [decide_eq_true h] at this
set_option maxHeartbeats 8000000 in
set_option maxRecDepth 100000 in
theorem name_lotto (w : World) : Calls Tryz.prog 29 #[.string lotto] w fun e w' => e = .returned (.bool true) ∧ w = w' := by
  unfold lotto
  go_enter Tryz.func29, Tryz.ntmps29
  go_wp2
  go_loopw [25] (fun s wr => ∃ k : Nat, k ≤ 5 ∧ s = .int .i64 (k : Int) ∧ wr = w) (fun i _ => 5 - (intOf i).toNat)
  case atStart => exact ⟨0, Nat.zero_le _, rfl, rfl⟩
  case round =>
    obtain ⟨k, hk, rfl, hwr⟩ := hrel
    obtain rfl := hwr.symm
    have hc : k = 0 ∨ k = 1 ∨ k = 2 ∨ k = 3 ∨ k = 4 ∨ k = 5 := by omega
    rcases hc with rfl | rfl | rfl | rfl | rfl | rfl
    case inr.inr.inr.inr.inr =>
      go_wp2
      go_ret
      exact ⟨rfl, rfl⟩
    case inl =>
      go_wp2
      go_roundw
      case rel => exact ⟨1, by omega, rfl, by first | rfl | trivial⟩
      case measure => simp [intOf]
    case inr.inl =>
      go_wp2
      go_roundw
      case rel => exact ⟨2, by omega, rfl, by first | rfl | trivial⟩
      case measure => simp [intOf]
    case inr.inr.inl =>
      go_wp2
      go_roundw
      case rel => exact ⟨3, by omega, rfl, by first | rfl | trivial⟩
      case measure => simp [intOf]
    case inr.inr.inr.inl =>
      go_wp2
      go_roundw
      case rel => exact ⟨4, by omega, rfl, by first | rfl | trivial⟩
      case measure => simp [intOf]
    case inr.inr.inr.inr.inl =>
      go_wp2
      go_roundw
      case rel => exact ⟨5, by omega, rfl, by first | rfl | trivial⟩
      case measure => simp [intOf]
set_option maxHeartbeats 8000000 in
set_option maxRecDepth 100000 in
theorem terms_tg (w : World) {m n b c x : Nat} {D : Option Addr} {T k : Nat} : Calls Tryz.prog 31 #[.agg (tg m n b c x D T k)] w fun e w' => e = .returned (.string ⟨#[]⟩) ∧ Below w.heap.size w w' := by
  have BS0 := Lib.hid ((Fr.Bs.nil w).alloc TG (tg m n b c x D T k))
  have HW := Lib.hid (fun (w : World) (n a b : Int) (h : a ≤ n ∧ n ≤ b) => within_yes w h)
  unfold tg at BS0 ⊢
  go_enter Tryz.func31, Tryz.ntmps31
  go_upto_region 1 with (fail)
  obtain ⟨wa, hwa⟩ : ∃ wa, wa = w.alloc (.cells #[.string lotto, .int .i64 1, .int .i64 200, .int .i64 (m : Int), .int .i64 (n : Int), .int .i64 (b : Int), .int .i64 (c : Int), .int .i64 (x : Int), .int .i64 4, .int .i64 (m : Int), .int .i64 32, .int .i64 1230, .int .i64 30, .int .i64 15, .int .i64 90, .int .i64 5000, .int .i64 0, .int .i64 1, .int .i64 0, .int .i64 0, .slice none 0 0, .slice D T k] TG) := ⟨_, rfl⟩
  change Code.wp _ _ _ _ (w.alloc (.cells #[.string lotto, .int .i64 1, .int .i64 200, .int .i64 (m : Int), .int .i64 (n : Int), .int .i64 (b : Int), .int .i64 (c : Int), .int .i64 (x : Int), .int .i64 4, .int .i64 (m : Int), .int .i64 32, .int .i64 1230, .int .i64 30, .int .i64 15, .int .i64 90, .int .i64 5000, .int .i64 0, .int .i64 1, .int .i64 0, .int .i64 0, .slice none 0 0, .slice D T k] TG))
  rw [← hwa] at BS0 ⊢
  obtain ⟨_, lg, kg⟩ := BS0.out.get (.head _)
  have HB := Lib.hid BS0.out.below
  obtain ⟨gb, hgb⟩ : ∃ g, g = w.heap.size := ⟨_, rfl⟩
  rw [← hgb] at kg lg
  rw [show (Value.pointer (some ⟨w.heap.size, 0, none⟩)) = .pointer (some ⟨gb, 0, none⟩) by rw [hgb]]
  have q10 : wa.cell? ⟨gb, 10, none⟩ = some (.int .i64 32) := kg.cell 10
  have q11 : wa.cell? ⟨gb, 11, none⟩ = some (.int .i64 1230) := kg.cell 11
  have q12 : wa.cell? ⟨gb, 12, none⟩ = some (.int .i64 30) := kg.cell 12
  have q13 : wa.cell? ⟨gb, 13, none⟩ = some (.int .i64 15) := kg.cell 13
  have q14 : wa.cell? ⟨gb, 14, none⟩ = some (.int .i64 90) := kg.cell 14
  have q15 : wa.cell? ⟨gb, 15, none⟩ = some (.int .i64 5000) := kg.cell 15
  have q16 : wa.cell? ⟨gb, 16, none⟩ = some (.int .i64 0) := kg.cell 16
  have q17 : wa.cell? ⟨gb, 17, none⟩ = some (.int .i64 1) := kg.cell 17
  have q18 : wa.cell? ⟨gb, 18, none⟩ = some (.int .i64 0) := kg.cell 18
  have q19 : wa.cell? ⟨gb, 19, none⟩ = some (.int .i64 0) := kg.cell 19
  clear hwa hgb kg BS0
  go_wp2_with fail
  refine (HW.out _ _ _ _ (by omega)).mono ?_
  rintro e w1 ⟨rfl, hw1⟩
  obtain rfl := hw1
  go_wp2_with fail
  refine (HW.out _ _ _ _ (by omega)).mono ?_
  rintro e w1 ⟨rfl, hw1⟩
  obtain rfl := hw1
  go_wp2_with fail
  refine (HW.out _ _ _ _ (by omega)).mono ?_
  rintro e w1 ⟨rfl, hw1⟩
  obtain rfl := hw1
  go_wp2_with fail
  refine (HW.out _ _ _ _ (by omega)).mono ?_
  rintro e w1 ⟨rfl, hw1⟩
  obtain rfl := hw1
  go_wp2_with fail
  refine (HW.out _ _ _ _ (by omega)).mono ?_
  rintro e w1 ⟨rfl, hw1⟩
  obtain rfl := hw1
  go_wp2_with fail
  refine (HW.out _ _ _ _ (by omega)).mono ?_
  rintro e w1 ⟨rfl, hw1⟩
  obtain rfl := hw1
  go_wp2_with fail
  refine (HW.out _ _ _ _ (by omega)).mono ?_
  rintro e w1 ⟨rfl, hw1⟩
  obtain rfl := hw1
  go_wp2_with fail
  refine (HW.out _ _ _ _ (by omega)).mono ?_
  rintro e w1 ⟨rfl, hw1⟩
  obtain rfl := hw1
  go_wp2_with fail
  refine (HW.out _ _ _ _ (by omega)).mono ?_
  rintro e w1 ⟨rfl, hw1⟩
  obtain rfl := hw1
  go_wp2_with fail
  refine (HW.out _ _ _ _ (by omega)).mono ?_
  rintro e w1 ⟨rfl, hw1⟩
  obtain rfl := hw1
  go_wp2
  go_ret
  exact ⟨rfl, HB.out⟩
set_option maxHeartbeats 8000000 in
set_option maxRecDepth 100000 in
theorem matrix_tg (w : World) {m n b c x : Nat} {D : Option Addr} {T k : Nat} (hm0 : 1 ≤ m) (hm : m ≤ 3) (hmx : m + x ≤ n) (hn : n ≤ 7) (hx : x ≤ 1) (hb : b = 0 ∧ c = 0 ∨ b = 1 ∧ 1 ≤ c ∧ c ≤ 3) : Calls Tryz.prog 30 #[.agg (tg m n b c x D T k)] w fun e w' => e = .returned (.string ⟨#[]⟩) ∧ Below w.heap.size w w' := by
  have w1 : IntKind.i64.wrap ((m : Int) + (x : Int)) = (m : Int) + (x : Int) := IntWalk.i64_in _ (by omega)
  have g1 : ((n : Int) < (m : Int) + (x : Int)) = False := eq_false (by omega)
  have g2 : ((n : Int) < 14) := by omega
  have hbb : (((b : Int) != 0) = false ∧ b ≤ 0 ∧ c ≤ 0) ∨ (((b : Int) != 0) = true ∧ b ≤ 1 ∧ 1 ≤ c ∧ c ≤ 3) := by
    rcases hb with ⟨h1, h2⟩ | ⟨h1, h2, h3⟩
    · exact .inl ⟨by rw [h1]; rfl, by omega, by omega⟩
    · exact .inr ⟨by rw [h1]; rfl, by omega, h2, h3⟩
  clear hb
  rcases hbb with ⟨hbq, hb1, hc1⟩ | ⟨hbq, hb1, hc1, hc2⟩
  all_goals
    have BS0 := Lib.hid ((Fr.Bs.nil w).alloc TG (tg m n b c x D T k))
    have HW := Lib.hid (fun (w : World) (n a b : Int) (h : a ≤ n ∧ n ≤ b) => within_yes w h)
    unfold tg at BS0 ⊢
    go_enter Tryz.func30, Tryz.ntmps30
    go_upto_region 1 with (fail)
    obtain ⟨wa, hwa⟩ : ∃ wa, wa = w.alloc (.cells #[.string lotto, .int .i64 1, .int .i64 200, .int .i64 (m : Int), .int .i64 (n : Int), .int .i64 (b : Int), .int .i64 (c : Int), .int .i64 (x : Int), .int .i64 4, .int .i64 (m : Int), .int .i64 32, .int .i64 1230, .int .i64 30, .int .i64 15, .int .i64 90, .int .i64 5000, .int .i64 0, .int .i64 1, .int .i64 0, .int .i64 0, .slice none 0 0, .slice D T k] TG) := ⟨_, rfl⟩
    change Code.wp _ _ _ _ (w.alloc (.cells #[.string lotto, .int .i64 1, .int .i64 200, .int .i64 (m : Int), .int .i64 (n : Int), .int .i64 (b : Int), .int .i64 (c : Int), .int .i64 (x : Int), .int .i64 4, .int .i64 (m : Int), .int .i64 32, .int .i64 1230, .int .i64 30, .int .i64 15, .int .i64 90, .int .i64 5000, .int .i64 0, .int .i64 1, .int .i64 0, .int .i64 0, .slice none 0 0, .slice D T k] TG))
    rw [← hwa] at BS0 ⊢
    obtain ⟨_, lg, kg⟩ := BS0.out.get (.head _)
    have HB := Lib.hid BS0.out.below
    obtain ⟨gb, hgb⟩ : ∃ g, g = w.heap.size := ⟨_, rfl⟩
    rw [← hgb] at kg lg
    rw [show (Value.pointer (some ⟨w.heap.size, 0, none⟩)) = .pointer (some ⟨gb, 0, none⟩) by rw [hgb]]
    have q1 : wa.cell? ⟨gb, 1, none⟩ = some (.int .i64 1) := kg.cell 1
    have q2 : wa.cell? ⟨gb, 2, none⟩ = some (.int .i64 200) := kg.cell 2
    have q3 : wa.cell? ⟨gb, 3, none⟩ = some (.int .i64 (m : Int)) := kg.cell 3
    have q4 : wa.cell? ⟨gb, 4, none⟩ = some (.int .i64 (n : Int)) := kg.cell 4
    have q5 : wa.cell? ⟨gb, 5, none⟩ = some (.int .i64 (b : Int)) := kg.cell 5
    have q6 : wa.cell? ⟨gb, 6, none⟩ = some (.int .i64 (c : Int)) := kg.cell 6
    have q7 : wa.cell? ⟨gb, 7, none⟩ = some (.int .i64 (x : Int)) := kg.cell 7
    have q8 : wa.cell? ⟨gb, 8, none⟩ = some (.int .i64 4) := kg.cell 8
    have q9 : wa.cell? ⟨gb, 9, none⟩ = some (.int .i64 (m : Int)) := kg.cell 9
    clear hwa hgb kg BS0
    go_wp2_with fail
    refine (HW.out _ _ _ _ (by omega)).mono ?_
    rintro e w1 ⟨rfl, hw1⟩
    obtain rfl := hw1
    go_wp2_with fail
    refine (HW.out _ _ _ _ (by omega)).mono ?_
    rintro e w1 ⟨rfl, hw1⟩
    obtain rfl := hw1
    go_wp2_with fail
    refine (HW.out _ _ _ _ (by omega)).mono ?_
    rintro e w1 ⟨rfl, hw1⟩
    obtain rfl := hw1
    go_wp2_with fail
    refine (HW.out _ _ _ _ (by omega)).mono ?_
    rintro e w1 ⟨rfl, hw1⟩
    obtain rfl := hw1
    go_wp2_with fail
    refine (HW.out _ _ _ _ (by omega)).mono ?_
    rintro e w1 ⟨rfl, hw1⟩
    obtain rfl := hw1
    go_wp2_with fail
    refine (HW.out _ _ _ _ (by omega)).mono ?_
    rintro e w1 ⟨rfl, hw1⟩
    obtain rfl := hw1
    go_wp2_with fail
    refine (HW.out _ _ _ _ (by omega)).mono ?_
    rintro e w1 ⟨rfl, hw1⟩
    obtain rfl := hw1
    go_wp2_with fail
    refine (HW.out _ _ _ _ (by omega)).mono ?_
    rintro e w1 ⟨rfl, hw1⟩
    obtain rfl := hw1
    go_wp2
    go_ret
    exact ⟨rfl, HB.out⟩
end Tp
end Go.Proofs.YtdcmpnjhomhhiaaGreat
