/- The walks of checkCounts, the program's and the reference's. -/
import Derived.Test.YtiflmnmkmpjecaaFaSeq
set_option linter.unusedVariables false
namespace Go.Proofs.Ytiflmnmkmpjecaa
open Go.RowKit
namespace Fa
open Fr
def sm (f : Nat → Int) : Nat → Int
  | 0 => 0
  | i + 1 => sm f i + f i
/-- All counts and weights are in range. -/
def rgo (o p : Nat → Int) : Nat → Bool
  | 0 => true
  | i + 1 => rgo o p i && decide (0 ≤ o i ∧ o i ≤ 1000000 ∧ 0 ≤ p i ∧ p i ≤ 1000000)
/-- One of the weights is 0. -/
def zr (p : Nat → Int) : Nat → Bool
  | 0 => false
  | i + 1 => zr p i || p i == 0
theorem rgo_no {o p : Nat → Int} {i : Nat} (h : rgo o p i = false) : ∀ {n}, i ≤ n → rgo o p n = false := by
  intro n hn
  induction n with
  | zero => obtain rfl : i = 0 := by omega
            exact h
  | succ n ih =>
    rcases Nat.lt_or_ge i (n + 1) with h1 | h1
    · rw [rgo, ih (by omega), Bool.false_and]
    · obtain rfl : i = n + 1 := by omega
      exact h
theorem rgo_at {o p : Nat → Int} : ∀ {n}, rgo o p n = true → ∀ {i}, i < n → 0 ≤ o i ∧ o i ≤ 1000000 ∧ 0 ≤ p i ∧ p i ≤ 1000000
  | 0, _, _, hi => by omega
  | n + 1, h, i, hi => by
    rw [rgo, Bool.and_eq_true, decide_eq_true_eq] at h
    rcases Nat.lt_or_ge i n with h1 | h1
    · exact rgo_at h.1 h1
    · obtain rfl : i = n := by omega
      exact h.2
theorem sm_le {f : Nat → Int} : ∀ {n}, (∀ i, i < n → 0 ≤ f i ∧ f i ≤ 1000000) → 0 ≤ sm f n ∧ sm f n ≤ 1000000 * n
  | 0, _ => by simp [sm]
  | n + 1, h => by
    have h1 := sm_le (n := n) fun i hi => h i (by omega)
    have h2 := h n (by omega)
    rw [sm]
    omega
theorem rgo_sums {o p : Nat → Int} {n : Nat} (h : rgo o p n = true) : 0 ≤ sm o n ∧ sm o n ≤ 1000000 * n ∧ 0 ≤ sm p n ∧ sm p n ≤ 1000000 * n := by
  have h1 := sm_le (f := o) (n := n) fun i hi => ⟨(rgo_at h hi).1, (rgo_at h hi).2.1⟩
  have h2 := sm_le (f := p) (n := n) fun i hi => ⟨(rgo_at h hi).2.2.1, (rgo_at h hi).2.2.2⟩
  exact ⟨h1.1, h1.2, h2.1, h2.2⟩
/-- What the check gives. -/
def ck (o p : Nat → Int) (n m : Nat) : Int × Int × Int :=
  if n = 0 ∨ 80 < n ∨ m ≠ n then (0, 0, 3) else if rgo o p n = false then (0, 0, 2) else if zr p n = true ∨ sm o n = 0 then (0, 0, 10) else (sm o n, sm p n, 0)
set_option maxHeartbeats 1000000 in
theorem chk_len {A B : Option Addr} {n m c c' : Nat} {o p : Nat → Int} {w : World} (hn : n ≤ 1000000) (hm : m ≤ 1000000) (h : n = 0 ∨ 0 < n ∧ 80 < n ∨ 0 < n ∧ n ≤ 80 ∧ m ≠ n) :
    Calls Try.prog 33 #[.slice A n c, .slice B m c'] w fun e w' => e = .returned (.tuple #[.int .i64 0, .int .i64 0, .int .i64 3]) ∧ Below w.heap.size w w' := by
  rcases h with h | ⟨h0, h⟩ | ⟨h0, h1, h⟩
  · subst h
    go_enter Try.func33, Try.ntmps33
    go_wp2
    refine bodyPost_ret (v := .tuple #[.int .i64 0, .int .i64 0, .int .i64 3]) (by simp [results, Try.results33, go_sem]) rfl ?_
    exact ⟨rfl, Below.refl _ _⟩
  · have e0 : ((n : Int) == 0) = false := by simp; omega
    have e1 : (n == 0) = false := by simp; omega
    go_enter Try.func33, Try.ntmps33
    go_wp2
    refine bodyPost_ret (v := .tuple #[.int .i64 0, .int .i64 0, .int .i64 3]) (by simp [results, Try.results33, go_sem]) rfl ?_
    exact ⟨rfl, Below.refl _ _⟩
  · have e0 : ((n : Int) == 0) = false := by simp; omega
    have e1 : (n == 0) = false := by simp; omega
    have e2 : ((m : Int) != (n : Int)) = true := by simp; omega
    have e3 : (m != n) = true := by simp; omega
    have e4 : ((n : Int) != (m : Int)) = true := by simp; omega
    have e5 : (n != m) = true := by simp; omega
    go_enter Try.func33, Try.ntmps33
    go_wp2
    refine bodyPost_ret (v := .tuple #[.int .i64 0, .int .i64 0, .int .i64 3]) (by simp [results, Try.results33, go_sem]) rfl ?_
    exact ⟨rfl, Below.refl _ _⟩
set_option maxHeartbeats 4000000 in
set_option maxRecDepth 100000 in
theorem chk_main {A B : Option Addr} {n m c c' : Nat} {o p : Nat → Int} {w : World} (h0 : 0 < n) (h1 : n ≤ 80) (hm : m = n) (hA : Cells w A n (Iv o)) (hB : Cells w B n (Iv p)) :
    Calls Try.prog 33 #[.slice A n c, .slice B m c'] w fun e w' => ((rgo o p n = false ∧ e = .returned (.tuple #[.int .i64 0, .int .i64 0, .int .i64 2])) ∨ (rgo o p n = true ∧ (zr p n = true ∨ sm o n = 0) ∧ e = .returned (.tuple #[.int .i64 0, .int .i64 0, .int .i64 10])) ∨ (rgo o p n = true ∧ zr p n = false ∧ sm o n ≠ 0 ∧ e = .returned (.tuple #[.int .i64 (sm o n), .int .i64 (sm p n), .int .i64 0]))) ∧ Below w.heap.size w w' := by
  obtain rfl : n = m := hm.symm
  have e0 : ((n : Int) == 0) = false := by simp; omega
  have e1 : (n == 0) = false := by simp; omega
  have HR0 : Hid (rgo o p 0 = true) := Lib.hid rfl
  go_enter Try.func33, Try.ntmps33
  go_wp2
  go_loopw [7, 8, 9, 28] (fun s7 s8 s9 s28 wr => ∃ (k : Nat) (x y : Int) (z : Bool), k ≤ n ∧ s7 = .int .i64 x ∧ s8 = .int .i64 y ∧ s9 = .bool z ∧ s28 = .int .i64 (k : Int) ∧ Hid (x = sm o k) ∧ Hid (y = sm p k) ∧ Hid (z = zr p k) ∧ Hid (rgo o p k = true) ∧ Hid (Below w.heap.size w wr)) (fun _ _ _ i _ => n - (intOf i).toNat)
  case atStart => exact ⟨0, 0, 0, false, Nat.zero_le _, rfl, rfl, rfl, rfl, Lib.hid rfl, Lib.hid rfl, Lib.hid rfl, HR0, Below.refl _ _⟩
  case round =>
    obtain ⟨k, x, y, z, hk, rfl, rfl, rfl, rfl, HX, HY, HZ, HRG, HB⟩ := hrel
    by_cases hkn : k < n
    · obtain ⟨b1, o1, hD1, hlt1, hc1⟩ := cells_at (hA.below HB.out) hkn
      obtain ⟨b2, o2, hD2, hlt2, hc2⟩ := cells_at (hB.below HB.out) hkn
      unfold Iv at hc1 hc2
      obtain ⟨u, hu⟩ : ∃ u, u = o k := ⟨_, rfl⟩
      obtain ⟨v, hv⟩ : ∃ v, v = p k := ⟨_, rfl⟩
      rw [← hu] at hc1
      rw [← hv] at hc2
      subst hD1 hD2
      have hs := rgo_sums HRG.out
      have hx0 : 0 ≤ x ∧ x ≤ 80000000 := by have := HX.out; omega
      have hy0 : 0 ≤ y ∧ y ≤ 80000000 := by have := HY.out; omega
      have HU := Lib.hid hu
      have HV := Lib.hid hv
      have HBAD : Hid (¬(0 ≤ u ∧ u ≤ 1000000 ∧ 0 ≤ v ∧ v ≤ 1000000) → rgo o p n = false) := Lib.hid fun h => rgo_no (i := k + 1) (by rw [rgo, ← hu, ← hv, decide_eq_false h, Bool.and_false]) (by omega)
      clear hu hv hs
      by_cases g1 : u < 0
      · have HN := Lib.hid (HBAD.out (by omega))
        clear HBAD
        go_wp2
        refine bodyPost_ret (v := .tuple #[.int .i64 0, .int .i64 0, .int .i64 2]) (by simp [results, Try.results33, go_sem]) rfl ?_
        exact ⟨.inl ⟨HN.out, rfl⟩, HB.out⟩
      by_cases g2 : 1000000 < u
      · have HN := Lib.hid (HBAD.out (by omega))
        have f1 : (u < 0) = False := eq_false g1
        clear HBAD g1
        go_wp2
        refine bodyPost_ret (v := .tuple #[.int .i64 0, .int .i64 0, .int .i64 2]) (by simp [results, Try.results33, go_sem]) rfl ?_
        exact ⟨.inl ⟨HN.out, rfl⟩, HB.out⟩
      by_cases g3 : v < 0
      · have HN := Lib.hid (HBAD.out (by omega))
        have f1 : (u < 0) = False := eq_false g1
        have f2 : (1000000 < u) = False := eq_false g2
        clear HBAD g1 g2
        go_wp2
        refine bodyPost_ret (v := .tuple #[.int .i64 0, .int .i64 0, .int .i64 2]) (by simp [results, Try.results33, go_sem]) rfl ?_
        exact ⟨.inl ⟨HN.out, rfl⟩, HB.out⟩
      by_cases g4 : 1000000 < v
      · have HN := Lib.hid (HBAD.out (by omega))
        have f1 : (u < 0) = False := eq_false g1
        have f2 : (1000000 < u) = False := eq_false g2
        have f3 : (v < 0) = False := eq_false g3
        clear HBAD g1 g2 g3
        go_wp2
        refine bodyPost_ret (v := .tuple #[.int .i64 0, .int .i64 0, .int .i64 2]) (by simp [results, Try.results33, go_sem]) rfl ?_
        exact ⟨.inl ⟨HN.out, rfl⟩, HB.out⟩
      have HOK : Hid (rgo o p (k + 1) = true) := Lib.hid (by rw [rgo, HRG.out, ← HU.out, ← HV.out, decide_eq_true (by omega)]; rfl)
      have hw1 : IntKind.i64.wrap (x + u) = x + u := IntWalk.i64_in _ (by omega)
      have hw2 : IntKind.i64.wrap (y + v) = y + v := IntWalk.i64_in _ (by omega)
      have HX2 : Hid (x + u = sm o (k + 1)) := Lib.hid (by rw [sm, ← HX.out, ← HU.out])
      have HY2 : Hid (y + v = sm p (k + 1)) := Lib.hid (by rw [sm, ← HY.out, ← HV.out])
      have f1 : (u < 0) = False := eq_false g1
      have f2 : (1000000 < u) = False := eq_false g2
      have f3 : (v < 0) = False := eq_false g3
      have f4 : (1000000 < v) = False := eq_false g4
      have HVZ : Hid (zr p (k + 1) = (z || v == 0)) := Lib.hid (by rw [zr, ← HZ.out, ← HV.out])
      have hv0 : (v == 0) = true ∨ (v == 0) = false := by cases v == 0 <;> simp
      clear HBAD g1 g2 g3 g4
      cases z with
      | true =>
        go_wp2
        go_roundw
        case rel => exact ⟨k + 1, x + u, y + v, true, by omega, rfl, rfl, rfl, by go_num, HX2, HY2, Lib.hid (by rw [HVZ.out]; rfl), HOK, HB⟩
        case measure => simp [intOf] <;> omega
      | false =>
        rcases hv0 with hv0 | hv0
        · rw [hv0] at HVZ
          go_wp2
          go_roundw
          case rel => exact ⟨k + 1, x + u, y + v, true, by omega, rfl, rfl, rfl, by go_num, HX2, HY2, Lib.hid (by rw [HVZ.out]; rfl), HOK, HB⟩
          case measure => simp [intOf] <;> omega
        · rw [hv0] at HVZ
          go_wp2
          go_roundw
          case rel => exact ⟨k + 1, x + u, y + v, false, by omega, rfl, rfl, rfl, by go_num, HX2, HY2, Lib.hid (by rw [HVZ.out]; rfl), HOK, HB⟩
          case measure => simp [intOf] <;> omega
    · obtain rfl : k = n := by omega
      cases z with
      | true =>
        have HZ2 : Hid (zr p k = true) := Lib.hid HZ.out.symm
        go_wp2
        refine bodyPost_ret (v := .tuple #[.int .i64 0, .int .i64 0, .int .i64 10]) (by simp [results, Try.results33, go_sem]) rfl ?_
        exact ⟨.inr (.inl ⟨HRG.out, .inl HZ2.out, rfl⟩), HB.out⟩
      | false =>
        have HZ2 : Hid (zr p k = false) := Lib.hid HZ.out.symm
        by_cases hx : x = 0
        · have f1 : (x == 0) = true := by simp [hx]
          have HX0 : Hid (sm o k = 0) := Lib.hid (by rw [← HX.out, hx])
          clear hx
          go_wp2
          refine bodyPost_ret (v := .tuple #[.int .i64 0, .int .i64 0, .int .i64 10]) (by simp [results, Try.results33, go_sem]) rfl ?_
          exact ⟨.inr (.inl ⟨HRG.out, .inr HX0.out, rfl⟩), HB.out⟩
        · have f1 : (x == 0) = false := by simp [hx]
          have HX0 : Hid (sm o k ≠ 0) := Lib.hid (by rw [← HX.out]; exact hx)
          clear hx
          go_wp2
          refine bodyPost_ret (v := .tuple #[.int .i64 x, .int .i64 y, .int .i64 0]) (by simp [results, Try.results33, go_sem]) rfl ?_
          exact ⟨.inr (.inr ⟨HRG.out, HZ2.out, HX0.out, by rw [← HX.out, ← HY.out]⟩), HB.out⟩
set_option maxHeartbeats 1000000 in
theorem rchk_len {A B : Option Addr} {n m c c' : Nat} {o p : Nat → Int} {w : World} (hn : n ≤ 1000000) (hm : m ≤ 1000000) (h : n = 0 ∨ 0 < n ∧ 80 < n ∨ 0 < n ∧ n ≤ 80 ∧ m ≠ n) :
    Calls Try.prog 39 #[.slice A n c, .slice B m c'] w fun e w' => e = .returned (.tuple #[.int .i64 0, .int .i64 0, .int .i64 3]) ∧ Below w.heap.size w w' := by
  rcases h with h | ⟨h0, h⟩ | ⟨h0, h1, h⟩
  · subst h
    go_enter Try.func39, Try.ntmps39
    go_wp2
    refine bodyPost_ret (v := .tuple #[.int .i64 0, .int .i64 0, .int .i64 3]) (by simp [results, Try.results39, go_sem]) rfl ?_
    exact ⟨rfl, Below.refl _ _⟩
  · have e0 : ((n : Int) == 0) = false := by simp; omega
    have e1 : (n == 0) = false := by simp; omega
    go_enter Try.func39, Try.ntmps39
    go_wp2
    refine bodyPost_ret (v := .tuple #[.int .i64 0, .int .i64 0, .int .i64 3]) (by simp [results, Try.results39, go_sem]) rfl ?_
    exact ⟨rfl, Below.refl _ _⟩
  · have e0 : ((n : Int) == 0) = false := by simp; omega
    have e1 : (n == 0) = false := by simp; omega
    have e2 : ((m : Int) != (n : Int)) = true := by simp; omega
    have e3 : (m != n) = true := by simp; omega
    have e4 : ((n : Int) != (m : Int)) = true := by simp; omega
    have e5 : (n != m) = true := by simp; omega
    go_enter Try.func39, Try.ntmps39
    go_wp2
    refine bodyPost_ret (v := .tuple #[.int .i64 0, .int .i64 0, .int .i64 3]) (by simp [results, Try.results39, go_sem]) rfl ?_
    exact ⟨rfl, Below.refl _ _⟩
set_option maxHeartbeats 4000000 in
set_option maxRecDepth 100000 in
theorem rchk_main {A B : Option Addr} {n m c c' : Nat} {o p : Nat → Int} {w : World} (h0 : 0 < n) (h1 : n ≤ 80) (hm : m = n) (hA : Cells w A n (Iv o)) (hB : Cells w B n (Iv p)) :
    Calls Try.prog 39 #[.slice A n c, .slice B m c'] w fun e w' => ((rgo o p n = false ∧ e = .returned (.tuple #[.int .i64 0, .int .i64 0, .int .i64 2])) ∨ (rgo o p n = true ∧ (zr p n = true ∨ sm o n = 0) ∧ e = .returned (.tuple #[.int .i64 0, .int .i64 0, .int .i64 10])) ∨ (rgo o p n = true ∧ zr p n = false ∧ sm o n ≠ 0 ∧ e = .returned (.tuple #[.int .i64 (sm o n), .int .i64 (sm p n), .int .i64 0]))) ∧ Below w.heap.size w w' := by
  obtain rfl : n = m := hm.symm
  have e0 : ((n : Int) == 0) = false := by simp; omega
  have e1 : (n == 0) = false := by simp; omega
  have HR0 : Hid (rgo o p 0 = true) := Lib.hid rfl
  go_enter Try.func39, Try.ntmps39
  go_wp2
  go_loopw [7, 8, 9, 10] (fun s7 s8 s9 s28 wr => ∃ (k : Nat) (x y : Int) (z : Bool), k ≤ n ∧ s7 = .int .i64 x ∧ s8 = .int .i64 y ∧ s9 = .bool z ∧ s28 = .int .i64 (k : Int) ∧ Hid (x = sm o k) ∧ Hid (y = sm p k) ∧ Hid (z = zr p k) ∧ Hid (rgo o p k = true) ∧ Hid (Below w.heap.size w wr)) (fun _ _ _ i _ => n - (intOf i).toNat)
  case atStart => exact ⟨0, 0, 0, false, Nat.zero_le _, rfl, rfl, rfl, rfl, Lib.hid rfl, Lib.hid rfl, Lib.hid rfl, HR0, Below.refl _ _⟩
  case round =>
    obtain ⟨k, x, y, z, hk, rfl, rfl, rfl, rfl, HX, HY, HZ, HRG, HB⟩ := hrel
    by_cases hkn : k < n
    · obtain ⟨b1, o1, hD1, hlt1, hc1⟩ := cells_at (hA.below HB.out) hkn
      obtain ⟨b2, o2, hD2, hlt2, hc2⟩ := cells_at (hB.below HB.out) hkn
      unfold Iv at hc1 hc2
      obtain ⟨u, hu⟩ : ∃ u, u = o k := ⟨_, rfl⟩
      obtain ⟨v, hv⟩ : ∃ v, v = p k := ⟨_, rfl⟩
      rw [← hu] at hc1
      rw [← hv] at hc2
      subst hD1 hD2
      have hs := rgo_sums HRG.out
      have hx0 : 0 ≤ x ∧ x ≤ 80000000 := by have := HX.out; omega
      have hy0 : 0 ≤ y ∧ y ≤ 80000000 := by have := HY.out; omega
      have HU := Lib.hid hu
      have HV := Lib.hid hv
      have HBAD : Hid (¬(0 ≤ u ∧ u ≤ 1000000 ∧ 0 ≤ v ∧ v ≤ 1000000) → rgo o p n = false) := Lib.hid fun h => rgo_no (i := k + 1) (by rw [rgo, ← hu, ← hv, decide_eq_false h, Bool.and_false]) (by omega)
      clear hu hv hs
      by_cases g1 : u < 0
      · have HN := Lib.hid (HBAD.out (by omega))
        clear HBAD
        go_wp2
        refine bodyPost_ret (v := .tuple #[.int .i64 0, .int .i64 0, .int .i64 2]) (by simp [results, Try.results39, go_sem]) rfl ?_
        exact ⟨.inl ⟨HN.out, rfl⟩, HB.out⟩
      by_cases g2 : 1000000 < u
      · have HN := Lib.hid (HBAD.out (by omega))
        have f1 : (u < 0) = False := eq_false g1
        clear HBAD g1
        go_wp2
        refine bodyPost_ret (v := .tuple #[.int .i64 0, .int .i64 0, .int .i64 2]) (by simp [results, Try.results39, go_sem]) rfl ?_
        exact ⟨.inl ⟨HN.out, rfl⟩, HB.out⟩
      by_cases g3 : v < 0
      · have HN := Lib.hid (HBAD.out (by omega))
        have f1 : (u < 0) = False := eq_false g1
        have f2 : (1000000 < u) = False := eq_false g2
        clear HBAD g1 g2
        go_wp2
        refine bodyPost_ret (v := .tuple #[.int .i64 0, .int .i64 0, .int .i64 2]) (by simp [results, Try.results39, go_sem]) rfl ?_
        exact ⟨.inl ⟨HN.out, rfl⟩, HB.out⟩
      by_cases g4 : 1000000 < v
      · have HN := Lib.hid (HBAD.out (by omega))
        have f1 : (u < 0) = False := eq_false g1
        have f2 : (1000000 < u) = False := eq_false g2
        have f3 : (v < 0) = False := eq_false g3
        clear HBAD g1 g2 g3
        go_wp2
        refine bodyPost_ret (v := .tuple #[.int .i64 0, .int .i64 0, .int .i64 2]) (by simp [results, Try.results39, go_sem]) rfl ?_
        exact ⟨.inl ⟨HN.out, rfl⟩, HB.out⟩
      have HOK : Hid (rgo o p (k + 1) = true) := Lib.hid (by rw [rgo, HRG.out, ← HU.out, ← HV.out, decide_eq_true (by omega)]; rfl)
      have hw1 : IntKind.i64.wrap (x + u) = x + u := IntWalk.i64_in _ (by omega)
      have hw2 : IntKind.i64.wrap (y + v) = y + v := IntWalk.i64_in _ (by omega)
      have HX2 : Hid (x + u = sm o (k + 1)) := Lib.hid (by rw [sm, ← HX.out, ← HU.out])
      have HY2 : Hid (y + v = sm p (k + 1)) := Lib.hid (by rw [sm, ← HY.out, ← HV.out])
      have f1 : (u < 0) = False := eq_false g1
      have f2 : (1000000 < u) = False := eq_false g2
      have f3 : (v < 0) = False := eq_false g3
      have f4 : (1000000 < v) = False := eq_false g4
      have HVZ : Hid (zr p (k + 1) = (z || v == 0)) := Lib.hid (by rw [zr, ← HZ.out, ← HV.out])
      have hv0 : (v == 0) = true ∨ (v == 0) = false := by cases v == 0 <;> simp
      clear HBAD g1 g2 g3 g4
      cases z with
      | true =>
        go_wp2
        go_roundw
        case rel => exact ⟨k + 1, x + u, y + v, true, by omega, rfl, rfl, rfl, by go_num, HX2, HY2, Lib.hid (by rw [HVZ.out]; rfl), HOK, HB⟩
        case measure => simp [intOf] <;> omega
      | false =>
        rcases hv0 with hv0 | hv0
        · rw [hv0] at HVZ
          go_wp2
          go_roundw
          case rel => exact ⟨k + 1, x + u, y + v, true, by omega, rfl, rfl, rfl, by go_num, HX2, HY2, Lib.hid (by rw [HVZ.out]; rfl), HOK, HB⟩
          case measure => simp [intOf] <;> omega
        · rw [hv0] at HVZ
          go_wp2
          go_roundw
          case rel => exact ⟨k + 1, x + u, y + v, false, by omega, rfl, rfl, rfl, by go_num, HX2, HY2, Lib.hid (by rw [HVZ.out]; rfl), HOK, HB⟩
          case measure => simp [intOf] <;> omega
    · obtain rfl : k = n := by omega
      cases z with
      | true =>
        have HZ2 : Hid (zr p k = true) := Lib.hid HZ.out.symm
        go_wp2
        refine bodyPost_ret (v := .tuple #[.int .i64 0, .int .i64 0, .int .i64 10]) (by simp [results, Try.results39, go_sem]) rfl ?_
        exact ⟨.inr (.inl ⟨HRG.out, .inl HZ2.out, rfl⟩), HB.out⟩
      | false =>
        have HZ2 : Hid (zr p k = false) := Lib.hid HZ.out.symm
        by_cases hx : x = 0
        · have f1 : (x == 0) = true := by simp [hx]
          have HX0 : Hid (sm o k = 0) := Lib.hid (by rw [← HX.out, hx])
          clear hx
          go_wp2
          refine bodyPost_ret (v := .tuple #[.int .i64 0, .int .i64 0, .int .i64 10]) (by simp [results, Try.results39, go_sem]) rfl ?_
          exact ⟨.inr (.inl ⟨HRG.out, .inr HX0.out, rfl⟩), HB.out⟩
        · have f1 : (x == 0) = false := by simp [hx]
          have HX0 : Hid (sm o k ≠ 0) := Lib.hid (by rw [← HX.out]; exact hx)
          clear hx
          go_wp2
          refine bodyPost_ret (v := .tuple #[.int .i64 x, .int .i64 y, .int .i64 0]) (by simp [results, Try.results39, go_sem]) rfl ?_
          exact ⟨.inr (.inr ⟨HRG.out, HZ2.out, HX0.out, by rw [← HX.out, ← HY.out]⟩), HB.out⟩
end Fa
end Go.Proofs.Ytiflmnmkmpjecaa
