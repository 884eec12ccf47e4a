/- The walk of the law PayoutPays. -/
import Derived.Test.YtjifpiaianmmbaaPayFew
set_option linter.unusedVariables false
namespace Go.Proofs.Ytjifpiaianmmbaa
open Go.RowKit

theorem perr_zero {n : Nat} {F R : Nat → Int} {m : Nat} {C : Nat → ByteArray} {K A : Nat → Int} {g : Int} (h : perr n F R m C K A g = 0) : 0 ≤ g ∧ g ≤ 1000000000000 ∧ Tx.err n F R g = 0 ∧ Db.chk C K A m = 0 := by
  unfold perr at h
  by_cases hg : 0 ≤ g ∧ g ≤ 1000000000000
  · rw [if_pos hg] at h
    by_cases hc : Tx.chk n F R = 0
    · rw [if_pos hc] at h
      exact ⟨hg.1, hg.2, Tx.err_of hc hg.1 hg.2, h⟩
    · rw [if_neg hc] at h; exact absurd h hc
  · rw [if_neg hg] at h; cases h
set_option maxHeartbeats 1000000 in
set_option maxRecDepth 100000 in
theorem payoutPays_walk (W : World) {B : Option Addr} {n c : Nat} {F R : Nat → Int} (hn : n ≤ c) (hc : c ≤ maxLen) (hB : Cells W B (n * 2) (Two F R)) (hwB : ∀ i, i < n → (Lit.int .i64 (F i)).wf = true ∧ (Lit.int .i64 (R i)).wf = true)
    {D : Option Addr} {m0 c0 : Nat} {C0 : Nat → ByteArray} {K A : Nat → Int} (hm0 : m0 ≤ c0) (hc0 : c0 ≤ maxLen) (hD : Cells W D (m0 * 3) (Three C0 K A)) (hC0 : ∀ i, i < m0 → (C0 i).size ≤ maxLen) (hwD : ∀ i, i < m0 → (Lit.int .i64 (K i)).wf = true ∧ (Lit.int .i64 (A i)).wf = true) (g : Int) (wg : (Lit.int .i64 g).wf = true) :
    Calls Try.prog 3 #[.slice B n c, .slice D m0 c0, .int .i64 g] W fun e w' => e = .returned (.bool true) ∧ Below W.heap.size W w' := by
  unfold maxLen at hc hc0
  clear hwB hwD
  clear wg
  by_cases h12 : 12 < n
  · have h12i : (12 : Int) < (n : Int) := by omega
    have h12c : (12 : Int) ≤ (c : Int) := by omega
    go_enter Try.func3, Try.ntmps3
    go_wp2_with fail
    go_region_held3 (fun _ => True) (trivial) ((go_at_call 9; refine (few_any (w := W.drew) (by omega) (fun hm => hD hm) hC0).mono ?_; rintro e w1 ⟨D1, c1, m, rfl, hm, k1, hb1⟩; have hmm : m ≤ 20 := (by omega); clear hm))
    all_goals
      have hb : Below W.heap.size W w1 := ⟨hb1.os, hb1.tape, hb1.output, hb1.size, hb1.block⟩
      clear hb1
      obtain ⟨y, hy⟩ : ∃ y, y = perr 12 F R m (fun i => cut40 (C0 i)) K A g := ⟨_, rfl⟩
      by_cases hy0 : y = 0
      · subst hy0
        obtain ⟨g0, g1, he, hck⟩ := perr_zero hy.symm
        have hbd := Tx.bounds_of he
        obtain ⟨t, ht⟩ : ∃ t, Tx.val 12 F R g = t := ⟨_, rfl⟩
        rw [ht] at hbd
        obtain ⟨t0, t1, _⟩ := hbd
        obtain ⟨l, hl⟩ : ∃ l, l = Db.left A (g - t) m := ⟨_, rfl⟩
        have HE := Lib.hid he
        have HCK := Lib.hid hck
        have HT := Lib.hid ht
        have HL := Lib.hid hl
        clear hy he hck ht hl
        go_wp2_with fail
        refine (pay_good (by omega) (by omega) ((hB.sub (by omega)).below hb) k1 (fun i _ => cut40_size _) g0 g1 HT.out HE.out HCK.out t0 t1).mono ?_
        rintro e w2 ⟨D2, c2, rfl, k2, hb2, _⟩
        rw [← HL.out]
        unfold order
        replace k1 := (k1.below hb2).alloc (.cells #[.int .i64 g, .int .i64 t, .slice D2 m c2, .int .i64 l] 27)
        replace k2 := k2.alloc (.cells #[.int .i64 g, .int .i64 t, .slice D2 m c2, .int .i64 l] 27)
        replace hb := (Below.on hb hb2).alloc (Below.on hb hb2).size (.cells #[.int .i64 g, .int .i64 t, .slice D2 m c2, .int .i64 l] 27)
        have hbx : w2.cell? ⟨0, 0, none⟩ = w2.cell? ⟨0, 0, none⟩ := rfl
        clear hb2 hbx
        go_wp2_with fail
        refine (refPay_good (by omega) (by omega) ((hB.sub (by omega)).below hb) k1 (fun i _ => cut40_size _) g0 g1 HT.out HE.out HCK.out t0 t1).mono ?_
        rintro e w3 ⟨D3, c3, rfl, k3, hb3, _⟩
        rw [← HL.out]
        unfold order
        have q0 : w3.cell? ⟨w2.heap.size, 0, none⟩ = some (.int .i64 g) := by
          rw [hb3.cell (p := ⟨w2.heap.size, 0, none⟩) (by simp), World.cell?_alloc_at _ _ _ _ rfl]; rfl
        have q1 : w3.cell? ⟨w2.heap.size, 1, none⟩ = some (.int .i64 t) := by
          rw [hb3.cell (p := ⟨w2.heap.size, 1, none⟩) (by simp), World.cell?_alloc_at _ _ _ _ rfl]; rfl
        have q2 : w3.cell? ⟨w2.heap.size, 2, none⟩ = some (.slice D2 m c2) := by
          rw [hb3.cell (p := ⟨w2.heap.size, 2, none⟩) (by simp), World.cell?_alloc_at _ _ _ _ rfl]; rfl
        have q3 : w3.cell? ⟨w2.heap.size, 3, none⟩ = some (.int .i64 l) := by
          rw [hb3.cell (p := ⟨w2.heap.size, 3, none⟩) (by simp), World.cell?_alloc_at _ _ _ _ rfl]; rfl
        have hlt3 : w2.heap.size < w3.heap.size := by have := hb3.size; simp at this; omega
        replace k2 := (k2.below hb3).alloc (.cells #[.int .i64 g, .int .i64 t, .slice D3 m c3, .int .i64 l] 27)
        replace k3 := k3.alloc (.cells #[.int .i64 g, .int .i64 t, .slice D3 m c3, .int .i64 l] 27)
        replace hb := (Below.on hb hb3).alloc (Below.on hb hb3).size (.cells #[.int .i64 g, .int .i64 t, .slice D3 m c3, .int .i64 l] 27)
        clear hb3 k1
        go_wp2_with fail
        refine (same47_yes (n := m) (by omega) k2 k3).mono ?_
        rintro e w4 ⟨rfl, hb4⟩
        replace hb := Below.on hb hb4
        clear hb4 k2 k3 q0 q1 q2 q3
        go_wp2_with fail
        refine (works47 _).mono ?_
        rintro e w9 ⟨rfl, hb9⟩
        replace hb := Below.on hb hb9
        clear hb9
        go_wp2
        go_ret
        exact ⟨rfl, hb⟩
      · have Hy := Lib.hid hy
        clear hy
        go_wp2_with fail
        refine (pay_bad (by omega) (by omega) ((hB.sub (by omega)).below hb) k1 (fun i _ => cut40_size _) Hy.out.symm hy0).mono ?_
        rintro e w2 ⟨rfl, hb2⟩
        unfold order
        replace k1 := (k1.below hb2).alloc (.cells #[.int .i64 0, .int .i64 0, .slice none 0 0, .int .i64 0] 27)
        replace hb := (Below.on hb hb2).alloc (Below.on hb hb2).size (.cells #[.int .i64 0, .int .i64 0, .slice none 0 0, .int .i64 0] 27)
        clear hb2
        go_wp2_with fail
        refine (refPay_bad (by omega) (by omega) ((hB.sub (by omega)).below hb) k1 (fun i _ => cut40_size _) Hy.out.symm hy0).mono ?_
        rintro e w3 ⟨rfl, hb3⟩
        unfold order
        have q0 : w3.cell? ⟨w2.heap.size, 0, none⟩ = some (.int .i64 0) := by
          rw [hb3.cell (p := ⟨w2.heap.size, 0, none⟩) (by simp), World.cell?_alloc_at _ _ _ _ rfl]; rfl
        have q1 : w3.cell? ⟨w2.heap.size, 1, none⟩ = some (.int .i64 0) := by
          rw [hb3.cell (p := ⟨w2.heap.size, 1, none⟩) (by simp), World.cell?_alloc_at _ _ _ _ rfl]; rfl
        have q2 : w3.cell? ⟨w2.heap.size, 2, none⟩ = some (.slice none 0 0) := by
          rw [hb3.cell (p := ⟨w2.heap.size, 2, none⟩) (by simp), World.cell?_alloc_at _ _ _ _ rfl]; rfl
        have q3 : w3.cell? ⟨w2.heap.size, 3, none⟩ = some (.int .i64 0) := by
          rw [hb3.cell (p := ⟨w2.heap.size, 3, none⟩) (by simp), World.cell?_alloc_at _ _ _ _ rfl]; rfl
        have hlt3 : w2.heap.size < w3.heap.size := by have := hb3.size; simp at this; omega
        replace hb := (Below.on hb hb3).alloc (Below.on hb hb3).size (.cells #[.int .i64 0, .int .i64 0, .slice none 0 0, .int .i64 0] 27)
        clear hb3 k1
        go_wp2_with fail
        refine (same47_yes (n := 0) (G := fun _ => 0) (by omega) Cells.nil Cells.nil).mono ?_
        rintro e w4 ⟨rfl, hb4⟩
        replace hb := Below.on hb hb4
        clear hb4 q0 q1 q2 q3
        go_wp2_with fail
        refine (works47 _).mono ?_
        rintro e w9 ⟨rfl, hb9⟩
        replace hb := Below.on hb hb9
        clear hb9
        go_wp2
        go_ret
        exact ⟨rfl, hb⟩
  · have hni : (n : Int) ≤ (c : Int) := by omega
    have hnz : (0 : Int) ≤ (n : Int) := by omega
    have h12i : ((12 : Int) < (n : Int)) = False := eq_false (by omega)
    go_enter Try.func3, Try.ntmps3
    go_wp2_with fail
    go_region_held3 (fun _ => True) (trivial) ((go_at_call 9; refine (few_any (w := W.drew) (by omega) (fun hm => hD hm) hC0).mono ?_; rintro e w1 ⟨D1, c1, m, rfl, hm, k1, hb1⟩; have hmm : m ≤ 20 := (by omega); clear hm))
    all_goals
      have hb : Below W.heap.size W w1 := ⟨hb1.os, hb1.tape, hb1.output, hb1.size, hb1.block⟩
      clear hb1
      obtain ⟨y, hy⟩ : ∃ y, y = perr n F R m (fun i => cut40 (C0 i)) K A g := ⟨_, rfl⟩
      by_cases hy0 : y = 0
      · subst hy0
        obtain ⟨g0, g1, he, hck⟩ := perr_zero hy.symm
        have hbd := Tx.bounds_of he
        obtain ⟨t, ht⟩ : ∃ t, Tx.val n F R g = t := ⟨_, rfl⟩
        rw [ht] at hbd
        obtain ⟨t0, t1, _⟩ := hbd
        obtain ⟨l, hl⟩ : ∃ l, l = Db.left A (g - t) m := ⟨_, rfl⟩
        have HE := Lib.hid he
        have HCK := Lib.hid hck
        have HT := Lib.hid ht
        have HL := Lib.hid hl
        clear hy he hck ht hl
        go_wp2_with fail
        refine (pay_good (by omega) (by omega) ((hB.sub (by omega)).below hb) k1 (fun i _ => cut40_size _) g0 g1 HT.out HE.out HCK.out t0 t1).mono ?_
        rintro e w2 ⟨D2, c2, rfl, k2, hb2, _⟩
        rw [← HL.out]
        unfold order
        replace k1 := (k1.below hb2).alloc (.cells #[.int .i64 g, .int .i64 t, .slice D2 m c2, .int .i64 l] 27)
        replace k2 := k2.alloc (.cells #[.int .i64 g, .int .i64 t, .slice D2 m c2, .int .i64 l] 27)
        replace hb := (Below.on hb hb2).alloc (Below.on hb hb2).size (.cells #[.int .i64 g, .int .i64 t, .slice D2 m c2, .int .i64 l] 27)
        have hbx : w2.cell? ⟨0, 0, none⟩ = w2.cell? ⟨0, 0, none⟩ := rfl
        clear hb2 hbx
        go_wp2_with fail
        refine (refPay_good (by omega) (by omega) ((hB.sub (by omega)).below hb) k1 (fun i _ => cut40_size _) g0 g1 HT.out HE.out HCK.out t0 t1).mono ?_
        rintro e w3 ⟨D3, c3, rfl, k3, hb3, _⟩
        rw [← HL.out]
        unfold order
        have q0 : w3.cell? ⟨w2.heap.size, 0, none⟩ = some (.int .i64 g) := by
          rw [hb3.cell (p := ⟨w2.heap.size, 0, none⟩) (by simp), World.cell?_alloc_at _ _ _ _ rfl]; rfl
        have q1 : w3.cell? ⟨w2.heap.size, 1, none⟩ = some (.int .i64 t) := by
          rw [hb3.cell (p := ⟨w2.heap.size, 1, none⟩) (by simp), World.cell?_alloc_at _ _ _ _ rfl]; rfl
        have q2 : w3.cell? ⟨w2.heap.size, 2, none⟩ = some (.slice D2 m c2) := by
          rw [hb3.cell (p := ⟨w2.heap.size, 2, none⟩) (by simp), World.cell?_alloc_at _ _ _ _ rfl]; rfl
        have q3 : w3.cell? ⟨w2.heap.size, 3, none⟩ = some (.int .i64 l) := by
          rw [hb3.cell (p := ⟨w2.heap.size, 3, none⟩) (by simp), World.cell?_alloc_at _ _ _ _ rfl]; rfl
        have hlt3 : w2.heap.size < w3.heap.size := by have := hb3.size; simp at this; omega
        replace k2 := (k2.below hb3).alloc (.cells #[.int .i64 g, .int .i64 t, .slice D3 m c3, .int .i64 l] 27)
        replace k3 := k3.alloc (.cells #[.int .i64 g, .int .i64 t, .slice D3 m c3, .int .i64 l] 27)
        replace hb := (Below.on hb hb3).alloc (Below.on hb hb3).size (.cells #[.int .i64 g, .int .i64 t, .slice D3 m c3, .int .i64 l] 27)
        clear hb3 k1
        go_wp2_with fail
        refine (same47_yes (n := m) (by omega) k2 k3).mono ?_
        rintro e w4 ⟨rfl, hb4⟩
        replace hb := Below.on hb hb4
        clear hb4 k2 k3 q0 q1 q2 q3
        go_wp2_with fail
        refine (works47 _).mono ?_
        rintro e w9 ⟨rfl, hb9⟩
        replace hb := Below.on hb hb9
        clear hb9
        go_wp2
        go_ret
        exact ⟨rfl, hb⟩
      · have Hy := Lib.hid hy
        clear hy
        go_wp2_with fail
        refine (pay_bad (by omega) (by omega) ((hB.sub (by omega)).below hb) k1 (fun i _ => cut40_size _) Hy.out.symm hy0).mono ?_
        rintro e w2 ⟨rfl, hb2⟩
        unfold order
        replace k1 := (k1.below hb2).alloc (.cells #[.int .i64 0, .int .i64 0, .slice none 0 0, .int .i64 0] 27)
        replace hb := (Below.on hb hb2).alloc (Below.on hb hb2).size (.cells #[.int .i64 0, .int .i64 0, .slice none 0 0, .int .i64 0] 27)
        clear hb2
        go_wp2_with fail
        refine (refPay_bad (by omega) (by omega) ((hB.sub (by omega)).below hb) k1 (fun i _ => cut40_size _) Hy.out.symm hy0).mono ?_
        rintro e w3 ⟨rfl, hb3⟩
        unfold order
        have q0 : w3.cell? ⟨w2.heap.size, 0, none⟩ = some (.int .i64 0) := by
          rw [hb3.cell (p := ⟨w2.heap.size, 0, none⟩) (by simp), World.cell?_alloc_at _ _ _ _ rfl]; rfl
        have q1 : w3.cell? ⟨w2.heap.size, 1, none⟩ = some (.int .i64 0) := by
          rw [hb3.cell (p := ⟨w2.heap.size, 1, none⟩) (by simp), World.cell?_alloc_at _ _ _ _ rfl]; rfl
        have q2 : w3.cell? ⟨w2.heap.size, 2, none⟩ = some (.slice none 0 0) := by
          rw [hb3.cell (p := ⟨w2.heap.size, 2, none⟩) (by simp), World.cell?_alloc_at _ _ _ _ rfl]; rfl
        have q3 : w3.cell? ⟨w2.heap.size, 3, none⟩ = some (.int .i64 0) := by
          rw [hb3.cell (p := ⟨w2.heap.size, 3, none⟩) (by simp), World.cell?_alloc_at _ _ _ _ rfl]; rfl
        have hlt3 : w2.heap.size < w3.heap.size := by have := hb3.size; simp at this; omega
        replace hb := (Below.on hb hb3).alloc (Below.on hb hb3).size (.cells #[.int .i64 0, .int .i64 0, .slice none 0 0, .int .i64 0] 27)
        clear hb3 k1
        go_wp2_with fail
        refine (same47_yes (n := 0) (G := fun _ => 0) (by omega) Cells.nil Cells.nil).mono ?_
        rintro e w4 ⟨rfl, hb4⟩
        replace hb := Below.on hb hb4
        clear hb4 q0 q1 q2 q3
        go_wp2_with fail
        refine (works47 _).mono ?_
        rintro e w9 ⟨rfl, hb9⟩
        replace hb := Below.on hb hb9
        clear hb9
        go_wp2
        go_ret
        exact ⟨rfl, hb⟩
end Go.Proofs.Ytjifpiaianmmbaa
