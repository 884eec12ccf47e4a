/- The law FairnessSquares. -/
import Derived.Test.YtiflmnmkmpjecaaFaAwake
import Derived.Test.YtiflmnmkmpjecaaFaGood
import Derived.Test.YtiflmnmkmpjecaaRows
set_option linter.unusedVariables false
namespace Go.Proofs.Ytiflmnmkmpjecaa
open Go.RowKit
namespace Fa
open Fr
theorem squares_says {W : World} {A B : Option Addr} {n m c c' : Nat} {o p : Nat → Int} (hn : n ≤ 12) (hm : m ≤ 12) (hA : Cells W A n (Iv o)) (hB : Cells W B m (Iv p)) :
    ∃ (a b : Nat) (y : Int), Says W 15 #[.slice A n c, .slice B m c'] a b y ∧ Says W 16 #[.slice A n c, .slice B m c'] a b y := by
  by_cases hg : m = n ∧ Good n o p
  · obtain ⟨rfl, g⟩ := hg
    have e := red_eq (Nat.mul_pos (SN_pos fun i hi => (g.pi hi).2.1) g.so0) (RN_pos (o := nt o) g.so0 g.sp0 fun i hi => (g.pi hi).2.1) (sq_cross (k := m) rfl rfl g.sp0)
    exact ⟨_, _, 0, sayR rfl rfl (chi_says hn hA hB g), sayR e.1 e.2 (rchi_says hn hA hB g)⟩
  · obtain ⟨y, _, h1, h2⟩ := chi_no (c := c) (c' := c') hn hm hA hB hg
    exact ⟨0, 0, _, sayE h1, sayE h2⟩
set_option maxHeartbeats 8000000 in
set_option maxRecDepth 100000 in
theorem squares_law {W : World} {A B : Option Addr} {n m c c' : Nat} {o p : Nat → Int} (hA : Cells W A n (Iv o)) (hB : Cells W B m (Iv p)) :
    Calls Try.prog 4 #[.slice A n c, .slice B m c'] W fun e w' => e = .returned (.bool true) ∧ Below W.heap.size W w' := by
  have AW : Hid (∀ w', Calls Try.prog 11 #[] w' fun e w'' => e = .returned (.bool true) ∧ Below w'.heap.size w' w'') := Lib.hid awake_any
  by_cases hd : n ≤ 12 ∧ m ≤ 12
  · obtain ⟨a, b, y, hk, hr⟩ := squares_says (c := c) (c' := c') hd.1 hd.2 hA hB
    unfold Says at hk hr
    have HK := Lib.hid hk
    have HR := Lib.hid hr
    have hyy : (y == y) = true := by simp
    have g1 : decide ((12 : Int) < (n : Int)) = false := decide_eq_false (by omega)
    have g2 : decide ((12 : Int) < (m : Int)) = false := decide_eq_false (by omega)
    have BS0 := Lib.hid (Bs.nil W)
    clear hk hr hd hA hB
    go_enter Try.func4, Try.ntmps4
    go_wp2_with fail
    (with_reducible refine (HK.out _ BS0.out.below).mono ?_)
    rintro e w2 ⟨⟨D1, l1, y1, E1, m1, k1, rfl, a1, b1, hl, hm, hc, hd⟩, hb⟩
    have BQ2 := Lib.hid (BS0.out.on hb)
    have BS2 := Lib.hid (BQ2.out.alloc TF #[.slice D1 l1 y1, .slice E1 m1 k1])
    have X1 := Lib.hid (hc.alloc (.cells #[.slice D1 l1 y1, .slice E1 m1 k1] TF))
    have Y1 := Lib.hid (hd.alloc (.cells #[.slice D1 l1 y1, .slice E1 m1 k1] TF))
    have L1 := Lib.hid hl
    have M1 := Lib.hid hm
    clear hb hl hm hc hd BS0 BQ2
    go_wp2_with fail
    (with_reducible refine (HR.out _ BS2.out.below).mono ?_)
    rintro e w3 ⟨⟨D2, l2, y2, E2, m2, k2, rfl, a2, b2, hl, hm, hc, hd⟩, hb⟩
    have BQ3 := Lib.hid (BS2.out.on hb)
    have BS3 := Lib.hid (BQ3.out.alloc TF #[.slice D2 l2 y2, .slice E2 m2 k2])
    have X2 := Lib.hid (hc.alloc (.cells #[.slice D2 l2 y2, .slice E2 m2 k2] TF))
    have Y2 := Lib.hid (hd.alloc (.cells #[.slice D2 l2 y2, .slice E2 m2 k2] TF))
    replace X1 := Lib.hid ((X1.out.below hb).alloc (.cells #[.slice D2 l2 y2, .slice E2 m2 k2] TF))
    replace Y1 := Lib.hid ((Y1.out.below hb).alloc (.cells #[.slice D2 l2 y2, .slice E2 m2 k2] TF))
    have L2 := Lib.hid hl
    have M2 := Lib.hid hm
    clear hb hl hm hc hd BS2
    obtain ⟨_, ta, ka⟩ := BQ3.out.get (.head _)
    have q0 : w3.cell? ⟨w2.heap.size, 0, none⟩ = some (.slice D1 l1 y1) := ka.cell 0
    have q1 : w3.cell? ⟨w2.heap.size, 1, none⟩ = some (.slice E1 m1 k1) := ka.cell 1
    clear ka BQ3
    go_wp2_with fail
    refine (same_eq a1 b1 a2 b2 L1.out M1.out L2.out M2.out X1.out Y1.out X2.out Y2.out).mono ?_
    rintro e w6 ⟨rfl, hb⟩
    have BS6 := Lib.hid (BS3.out.on hb)
    clear hb q0 q1 ta BS3
    go_wp2_with fail
    refine (AW.out _).mono ?_
    rintro e w7 ⟨rfl, hb⟩
    have HB7 := Lib.hid (BS6.out.on hb).below
    clear hb
    go_wp2
    go_ret
    exact ⟨rfl, HB7.out⟩
  · have hd2 : decide ((12 : Int) < (n : Int)) = true ∨ decide ((12 : Int) < (n : Int)) = false ∧ decide ((12 : Int) < (m : Int)) = true := by
      by_cases h1 : (12 : Int) < (n : Int)
      · exact .inl (decide_eq_true h1)
      · exact .inr ⟨decide_eq_false h1, decide_eq_true (by omega)⟩
    clear hA hB hd
    rcases hd2 with g1 | ⟨g1, g2⟩
    all_goals
      go_enter Try.func4, Try.ntmps4
      go_wp2_with fail
      refine (AW.out _).mono ?_
      rintro e w7 ⟨rfl, hb⟩
      have HB7 := Lib.hid hb
      clear hb
      go_wp2
      go_ret
      exact ⟨rfl, HB7.out⟩
end Fa
theorem fairnessSquares_walk (W : World) {A : Option Addr} {n c : Nat} {o : Nat → Int} (nc : n ≤ c) (cm : c ≤ maxLen) (hA : Cells W A n (Fa.Iv o)) (wo : ∀ i, i < n → (Lit.int .i64 (o i)).wf = true) {B : Option Addr} {m c' : Nat} {p : Nat → Int} (mc : m ≤ c') (cm' : c' ≤ maxLen) (hB : Cells W B m (Fa.Iv p)) (wp : ∀ i, i < m → (Lit.int .i64 (p i)).wf = true) :
    Calls Try.prog 4 #[.slice A n c, .slice B m c'] W fun e w' => e = .returned (.bool true) ∧ Below W.heap.size W w' := Fa.squares_law hA hB
end Go.Proofs.Ytiflmnmkmpjecaa
