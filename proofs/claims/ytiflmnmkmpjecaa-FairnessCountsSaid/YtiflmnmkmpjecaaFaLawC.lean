/- The law FairnessCounts. -/
import Derived.Test.YtiflmnmkmpjecaaFaAwake
import Derived.Test.YtiflmnmkmpjecaaRows
set_option linter.unusedVariables false
namespace Go.Proofs.Ytiflmnmkmpjecaa
open Go.RowKit
namespace Fa
open Fr
theorem nsum_add (f g : Nat → Nat) : ∀ m, nsum (fun j => f j + g j) m = nsum f m + nsum g m
  | 0 => rfl
  | m + 1 => by rw [nsum, nsum, nsum, nsum_add f g m]; omega
theorem nsum_hit (v : Int) : ∀ m, nsum (fun j => if v = (j : Int) + 1 then 1 else 0) m = if 1 ≤ v ∧ v ≤ m then 1 else 0
  | 0 => by rw [nsum, if_neg (by omega)]
  | m + 1 => by
    rw [nsum, nsum_hit v m]
    by_cases h : v = (m : Int) + 1
    · rw [if_pos h, if_neg (by omega), if_pos (by omega)]
    · rw [if_neg h]
      by_cases h2 : 1 ≤ v ∧ v ≤ m
      · rw [if_pos h2, if_pos (by omega)]
      · rw [if_neg h2, if_neg (by omega)]
theorem sum_ctr {m : Nat} {z : Nat → Int} : ∀ {i}, okr m z i = true → nsum (ctr z i) m = i
  | 0, _ => by
    have : ∀ m, nsum (ctr z 0) m = 0 := fun m => by
      induction m with
      | zero => rfl
      | succ m ih => rw [nsum, ih]; rfl
    exact this m
  | i + 1, h => by
    rw [okr, Bool.and_eq_true, decide_eq_true_eq] at h
    have e : nsum (ctr z (i + 1)) m = nsum (fun j => ctr z i j + if z i = (j : Int) + 1 then 1 else 0) m := rfl
    rw [e, nsum_add, sum_ctr h.1, nsum_hit, if_pos h.2]
theorem sum_ctn {m : Nat} {L : Nat → Nat} {Z : Nat → Nat → Int} : ∀ {r}, okn m L Z r = true → nsum (ctn L Z r) m = nsum L r
  | 0, _ => by
    have : ∀ m, nsum (ctn L Z 0) m = 0 := fun m => by
      induction m with
      | zero => rfl
      | succ m ih => rw [nsum, ih]; rfl
    exact this m
  | r + 1, h => by
    rw [okn, Bool.and_eq_true] at h
    have e : nsum (ctn L Z (r + 1)) m = nsum (fun j => ctn L Z r j + ctr (Z r) (L r) j) m := rfl
    rw [e, nsum_add, sum_ctn h.1, sum_ctr h.2, nsum]
theorem nsum_le {f : Nat → Nat} {B : Nat} : ∀ {n}, (∀ i, i < n → f i ≤ B) → nsum f n ≤ B * n
  | 0, _ => by simp [nsum]
  | n + 1, h => by
    have h1 := nsum_le (n := n) fun i hi => h i (by omega)
    have h2 := h n (by omega)
    rw [nsum, Nat.mul_succ]
    omega
theorem nsum_mono {f : Nat → Nat} {k n : Nat} (h : k ≤ n) : nsum f k ≤ nsum f n := by
  induction n with
  | zero => obtain rfl : k = 0 := by omega
            exact Nat.le_refl _
  | succ n ih =>
    rcases Nat.lt_or_ge k (n + 1) with h1 | h1
    · have := ih (by omega)
      rw [nsum]
      omega
    · obtain rfl : k = n + 1 := by omega
      exact Nat.le_refl _
/-- What both calls give: the same list with the same error. -/
def FqT (W : World) (A : Option Addr) (N c : Nat) (m : Int) (f : FuncId) (n : Nat) (F : Nat → Nat) (y : Int) : Prop :=
  ∀ w', Below W.heap.size W w' → Calls Try.prog f #[.slice A N c, .int .i64 m] w' fun e w'' => (∃ D k, e = .returned (.tuple #[.slice D n k, .int .i64 y]) ∧ Cells w'' D n (Dg F)) ∧ Below w'.heap.size w' w''
theorem freq_both {W : World} {A : Option Addr} {N c : Nat} {B : Nat → Option Addr} {L C : Nat → Nat} {Z : Nat → Nat → Int} (m : Int) (hN : N ≤ 1000) (hL : ∀ r, r < N → L r ≤ 100) (hR : Rows2 W A N B L C Z) :
    ∃ (n : Nat) (F : Nat → Nat) (y : Int), FqT W A N c m 12 n F y ∧ FqT W A N c m 13 n F y ∧ n ≤ 80 ∧ (y ≠ 0 ∧ n = 0 ∨ y = 0 ∧ nsum F n = nsum L N) := by
  have none : ∀ (f : FuncId) (y : Int), (∀ w', Below W.heap.size W w' → Calls Try.prog f #[.slice A N c, .int .i64 m] w' fun e w'' => e = .returned (.tuple #[.slice none 0 0, .int .i64 y]) ∧ Below w'.heap.size w' w'') → FqT W A N c m f 0 (fun _ => 0) y := fun f y h w' hw => (h w' hw).mono fun e w'' ⟨h1, h2⟩ => ⟨⟨_, _, h1, Cells.nil⟩, h2⟩
  by_cases h1 : m < 1 ∨ 1 ≤ m ∧ 80 < m
  · exact ⟨0, fun _ => 0, 2, none _ 2 fun w' hw => freq_range w' h1, none _ 2 fun w' hw => rfreq_range w' h1, by omega, .inl ⟨by decide, rfl⟩⟩
  · by_cases h2 : 512 < N
    · exact ⟨0, fun _ => 0, 3, none _ 3 fun w' hw => freq_limit w' (by omega) (by omega) h2 (by omega), none _ 3 fun w' hw => rfreq_limit w' (by omega) (by omega) h2 (by omega), by omega, .inl ⟨by decide, rfl⟩⟩
    · obtain ⟨k, rfl⟩ := Int.eq_ofNat_of_zero_le (show 0 ≤ m by omega)
      cases hok : okn k L Z N with
      | true =>
        refine ⟨k, ctn L Z N, 0, fun w' hw => ?_, fun w' hw => ?_, by omega, .inr ⟨rfl, sum_ctn hok⟩⟩
        · refine (freq_main (m := k) (by omega) (by omega) (by omega) hL (hR.below hw)).mono ?_
          rintro e w'' ⟨⟨_, D, kk, h, hc⟩ | ⟨h, _⟩, hb⟩
          · exact ⟨⟨D, kk, h, hc⟩, hb⟩
          · rw [hok] at h; cases h
        · refine (rfreq_main (m := k) (by omega) (by omega) (by omega) hL (hR.below hw)).mono ?_
          rintro e w'' ⟨⟨_, D, kk, h, hc⟩ | ⟨h, _⟩, hb⟩
          · exact ⟨⟨D, kk, h, hc⟩, hb⟩
          · rw [hok] at h; cases h
      | false =>
        refine ⟨0, fun _ => 0, 2, none _ 2 fun w' hw => ?_, none _ 2 fun w' hw => ?_, by omega, .inl ⟨by decide, rfl⟩⟩
        · refine (freq_main (m := k) (by omega) (by omega) (by omega) hL (hR.below hw)).mono ?_
          rintro e w'' ⟨⟨h, _⟩ | ⟨_, h⟩, hb⟩
          · rw [hok] at h; cases h
          · exact ⟨h, hb⟩
        · refine (rfreq_main (m := k) (by omega) (by omega) (by omega) hL (hR.below hw)).mono ?_
          rintro e w'' ⟨⟨h, _⟩ | ⟨_, h⟩, hb⟩
          · rw [hok] at h; cases h
          · exact ⟨h, hb⟩
set_option maxHeartbeats 8000000 in
set_option maxRecDepth 100000 in
theorem counts_any {W : World} {A : Option Addr} {N c : Nat} {B : Nat → Option Addr} {L C : Nat → Nat} {Z : Nat → Nat → Int} (m : Int) (hN9 : N ≤ 9223372036854775807) (hL9 : ∀ r, r < N → L r ≤ 9223372036854775807) (hR : Rows2 W A N B L C Z) :
    Calls Try.prog 3 #[.slice A N c, .int .i64 m] W fun e w' => e = .returned (.bool true) ∧ Below W.heap.size W w' := by
  have HR := Lib.hid hR
  by_cases hN : N ≤ 1000
  · have HL9 := Lib.hid hL9
    clear hR hL9
    have g1 : ((1000 : Int) < (N : Int)) = False := eq_false (by omega)
    go_enter Try.func3, Try.ntmps3
    go_wp2
    go_loopw [5, 18] (fun s5 s18 wr => ∃ (k s : Nat), k ≤ N ∧ s18 = .int .i64 (k : Int) ∧ s5 = .int .i64 (s : Int) ∧ Hid (s = nsum L k) ∧ Hid (∀ r, r < k → L r ≤ 100) ∧ wr = W) (fun _ i _ => N - (intOf i).toNat)
    case atStart => exact ⟨0, 0, Nat.zero_le _, rfl, rfl, Lib.hid rfl, Lib.hid (fun r hr => by omega), rfl⟩
    case round =>
      obtain ⟨k, s, hk, rfl, rfl, HS, HLL, hwr⟩ := hrel
      obtain rfl := hwr.symm
      by_cases hkn : k < N
      · obtain ⟨b1, o1, rfl, hlt1, hc1⟩ := cells_at HR.out.top hkn
        obtain ⟨Lk, hLk⟩ : ∃ x, x = L k := ⟨_, rfl⟩
        obtain ⟨Bk, hBk⟩ : ∃ x, x = B k := ⟨_, rfl⟩
        obtain ⟨Ck, hCk⟩ : ∃ x, x = C k := ⟨_, rfl⟩
        replace hc1 : W.cell? ⟨b1, o1 + k, none⟩ = some (.slice Bk Lk Ck) := by rw [hc1, hBk, hLk, hCk]
        have hL9k : Lk ≤ 9223372036854775807 := by rw [hLk]; exact HL9.out k hkn
        have HLk := Lib.hid hLk
        clear hLk hBk hCk
        by_cases hl : Lk ≤ 100
        · have g2 : ((100 : Int) < (Lk : Int)) = False := eq_false (by omega)
          have hs : s ≤ 100 * k := by rw [HS.out]; exact nsum_le HLL.out
          have hw1 : IntKind.i64.wrap ((s : Int) + (Lk : Int)) = ((s + Lk : Nat) : Int) := by rw [IntWalk.i64_in _ (by omega)]; rfl
          have HS2 : Hid (s + Lk = nsum L (k + 1)) := Lib.hid (by rw [nsum, HS.out, HLk.out])
          have HLL2 : Hid (∀ r, r < k + 1 → L r ≤ 100) := Lib.hid (fun r hr => by
            by_cases e : r = k
            · rw [e, ← HLk.out]; exact hl
            · exact HLL.out r (by omega))
          clear hl hs
          go_wp2
          go_roundw
          case rel => exact ⟨k + 1, s + Lk, by omega, by go_num, by go_num, HS2, HLL2, by first | trivial | rfl⟩
          case measure => simp [intOf] <;> omega
        · have g2 : ((100 : Int) < (Lk : Int)) := by omega
          clear hl
          go_wp2_with fail
          refine (awake_any _).mono ?_
          rintro e w1 ⟨rfl, hb⟩
          have HB := Lib.hid hb
          clear hb
          go_wp2
          go_ret
          exact ⟨rfl, HB.out⟩
      · obtain rfl : k = N := by omega
        obtain ⟨n, F, y, hk1, hk2, hn80, hy⟩ := freq_both (c := c) m hN HLL.out HR.out
        have K1 := Lib.hid hk1
        have K2 := Lib.hid hk2
        have hs : s ≤ 100 * k := by rw [HS.out]; exact nsum_le HLL.out
        have hyy : (y != y) = false := by simp
        unfold FqT at K1 K2
        have HY := Lib.hid hy
        clear hk1 hk2 hkn hk hy
        go_wp2_with fail
        refine (K1.out _ (Below.refl _ _)).mono ?_
        rintro e w1 ⟨⟨D1, k1, rfl, hc1⟩, hb1⟩
        have HB1 := Lib.hid hb1
        have C1 := Lib.hid hc1
        clear hb1 hc1
        go_wp2_with fail
        refine (K2.out _ HB1.out).mono ?_
        rintro e w2 ⟨⟨D2, k2, rfl, hc2⟩, hb2⟩
        have HB2 := Lib.hid (Below.on HB1.out hb2)
        have C1b := Lib.hid (C1.out.below hb2)
        have C2 := Lib.hid hc2
        clear hb2 hc2 C1 HB1
        go_wp2_with fail
        refine (same_true (by omega) C1b.out C2.out).mono ?_
        rintro e w3 ⟨rfl, hb3⟩
        have HB3 := Lib.hid (Below.on HB2.out hb3)
        have C3 := Lib.hid (C1b.out.below hb3)
        clear hb3 C1b C2 HB2
        have HF : Hid (nsum F n ≤ s ∨ n = 0) := Lib.hid (by
          rcases HY.out with ⟨_, h⟩ | ⟨_, h⟩
          · exact .inr h
          · exact .inl (by rw [h, HS.out]; exact Nat.le_refl _))
        go_wp2
        go_loopw [5, 59] (fun s5 s59 wr => ∃ (j t : Nat), j ≤ n ∧ s59 = .int .i64 (j : Int) ∧ s5 = .int .i64 (t : Int) ∧ Hid (t + nsum F j = s) ∧ wr = w3) (fun _ i _ => n - (intOf i).toNat)
        case atStart => exact ⟨0, s, Nat.zero_le _, rfl, rfl, Lib.hid rfl, rfl⟩
        case round =>
          obtain ⟨j, t, hj, rfl, rfl, HT, hwr⟩ := hrel
          obtain rfl := hwr.symm
          by_cases hjn : j < n
          · obtain ⟨b1, o1, rfl, hlt1, hc1⟩ := C3.out.dg hjn
            obtain ⟨q, hq⟩ : ∃ q, q = F j := ⟨_, rfl⟩
            rw [← hq] at hc1
            have hqt : q ≤ t := by
              have h1 := HT.out
              have h2 : nsum F (j + 1) ≤ nsum F n := nsum_mono hjn
              rw [nsum, ← hq] at h2
              have h3 := HF.out
              omega
            have HT2 : Hid (t - q + nsum F (j + 1) = s) := Lib.hid (by have := HT.out; rw [nsum, ← hq]; omega)
            obtain ⟨t2, ht2⟩ : ∃ t2, t2 = t - q := ⟨_, rfl⟩
            have hw1 : IntKind.i64.wrap ((t : Int) - (q : Int)) = (t2 : Int) := by
              have := HT.out
              rw [IntWalk.i64_in _ (by omega)]; omega
            rw [← ht2] at HT2
            clear hq hqt ht2
            go_wp2
            go_roundw
            case rel => exact ⟨j + 1, t2, by omega, by go_num, rfl, HT2, by first | trivial | rfl⟩
            case measure => simp [intOf] <;> omega
          · obtain rfl : j = n := by omega
            rcases HY.out with ⟨hy0, _⟩ | ⟨hy0, hsum⟩
            · have f1 : (y != 0) = true := by simpa using hy0
              clear hy0
              go_wp2_with fail
              refine (awake_any _).mono ?_
              rintro e w4 ⟨rfl, hb⟩
              have HB := Lib.hid (Below.on HB3.out hb)
              clear hb
              go_wp2
              go_ret
              exact ⟨rfl, HB.out⟩
            · have ht0 : t = 0 := by have h1 := HT.out; have h2 := HS.out; omega
              subst hy0 ht0
              clear hsum
              go_wp2_with fail
              refine (awake_any _).mono ?_
              rintro e w4 ⟨rfl, hb⟩
              have HB := Lib.hid (Below.on HB3.out hb)
              clear hb
              go_wp2
              go_ret
              exact ⟨rfl, HB.out⟩
  · have g1 : ((1000 : Int) < (N : Int)) := by omega
    clear hR hL9 HR hN
    go_enter Try.func3, Try.ntmps3
    go_wp2_with fail
    refine (awake_any _).mono ?_
    rintro e w1 ⟨rfl, hb⟩
    have HB := Lib.hid hb
    clear hb
    go_wp2
    go_ret
    exact ⟨rfl, HB.out⟩
end Fa
theorem fairnessCounts_walk (W : World) {A : Option Addr} {n c : Nat} {B : Nat → Option Addr} {L C : Nat → Nat} {Z : Nat → Nat → Int} (nc : n ≤ c) (cm : c ≤ maxLen) (lm : ∀ r, r < n → L r ≤ maxLen) (rows : Fa.Rows2 W A n B L C Z) (m : Int) (hm : (Lit.int .i64 m).wf = true) :
    Calls Try.prog 3 #[.slice A n c, .int .i64 m] W fun e w' => e = .returned (.bool true) ∧ Below W.heap.size W w' :=
  Fa.counts_any m (by unfold maxLen at cm; omega) (fun r hr => by have := lm r hr; unfold maxLen at this; omega) rows
end Go.Proofs.Ytiflmnmkmpjecaa
