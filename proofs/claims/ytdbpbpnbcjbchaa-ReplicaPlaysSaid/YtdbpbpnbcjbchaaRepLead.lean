/- The walk of Lead, its first loop: who is reached, the greatest epoch, the best log. -/
import Derived.Test.YtdbpbpnbcjbchaaRepCopyOk
set_option linter.unusedVariables false
namespace Go.Proofs.Ytdbpbpnbcjbchaa
open Go.RowKit
namespace Rp
def rcnt (s : St) (k : Nat) : Nat := cnt (fun i => up (s.nd i)) k
def gr (s : St) : Nat → Nat
  | 0 => 0
  | k + 1 => if up (s.nd k) = true then (if gr s k < (s.nd k).ep then (s.nd k).ep else gr s k) else gr s k
/-- The node with the best log, among the first k. -/
def bst (s : St) : Nat → Option Nat
  | 0 => none
  | k + 1 => if up (s.nd k) = true then (match bst s k with | none => some k | some b => if bet (s.nd k).log (s.nd b).log = true then some k else some b) else bst s k
def bval : Option Nat → Value
  | none => .int .i64 (-1)
  | some b => .int .i64 (b : Int)
theorem bst_lt (s : St) : ∀ k b, bst s k = some b → b < k ∧ up (s.nd b) = true
  | 0, b, h => by cases h
  | k + 1, b, h => by
    simp only [bst] at h
    by_cases hu : up (s.nd k) = true
    · rw [if_pos hu] at h
      cases hb : bst s k with
      | none =>
        rw [hb] at h
        simp only [Option.some.injEq] at h
        subst h; exact ⟨by omega, hu⟩
      | some b' =>
        rw [hb] at h
        have := bst_lt s k b' hb
        by_cases he : bet (s.nd k).log (s.nd b').log = true
        · simp only [he, if_true, Option.some.injEq] at h
          subst h; exact ⟨by omega, hu⟩
        · simp only [he] at h
          simp only [Bool.false_eq_true, if_false, Option.some.injEq] at h
          subst h; exact ⟨by omega, this.2⟩
    · rw [if_neg hu] at h
      have := bst_lt s k b h
      exact ⟨by omega, this.2⟩
theorem bst_none (s : St) : ∀ k, bst s k = none → rcnt s k = 0
  | 0, _ => rfl
  | k + 1, h => by
    simp only [bst] at h
    by_cases hu : up (s.nd k) = true
    · rw [if_pos hu] at h
      cases hb : bst s k with
      | none => rw [hb] at h; cases h
      | some b' => rw [hb] at h; simp only at h; split at h <;> cases h
    · rw [if_neg hu] at h
      unfold rcnt
      rw [cnt_no _ (by simpa using hu)]
      exact bst_none s k h
theorem gr_le (s : St) (E : Nat) : ∀ k, (∀ i, i < k → (s.nd i).ep ≤ E) → gr s k ≤ E
  | 0, _ => Nat.zero_le _
  | k + 1, h => by
    have h1 := gr_le s E k fun i hi => h i (by omega)
    have h2 := h k (by omega)
    simp only [gr]
    split
    · split <;> omega
    · exact h1
set_option maxHeartbeats 1000000 in
theorem lead_bad {B : Nat} {w : World} {h n : Nat} {s : St} {lv : Nat → Value} {cv : Value} (c : Gp B w h n s lv cv) {x : Int} (hx : x < 0 ∨ (n : Int) ≤ x) :
    Calls Try.prog 11 #[.pointer (some ⟨h, 0, none⟩), .int .i64 x] w fun e w' => e = .returned (.int .i64 2) ∧ Dn w w' := by
  have HC := Lib.hid c
  clear c
  go_enter Try.func11, Try.ntmps11
  go_wp2_with fail
  refine (find_bad HC.out hx).mono ?_
  rintro e w1 ⟨rfl, rfl⟩
  go_wp2
  go_ret
  exact ⟨rfl, Dn.refl _⟩
set_option maxHeartbeats 1000000 in
theorem lead_down {B : Nat} {w : World} {h n : Nat} {s : St} {lv : Nat → Value} {cv : Value} (c : Gp B w h n s lv cv) {i : Nat} (hi : i < n) (a0 : (s.nd i).down = true) :
    Calls Try.prog 11 #[.pointer (some ⟨h, 0, none⟩), .int .i64 (i : Int)] w fun e w' => e = .returned (.int .i64 8) ∧ Dn w w' := by
  have hn7 := c.n7
  obtain ⟨p0, p1, _⟩ := c.at_ (i := i) (by omega)
  rw [a0] at p0
  have HC := Lib.hid c
  clear c
  go_enter Try.func11, Try.ntmps11
  go_wp2_with fail
  refine (find_ok HC.out rfl hi).mono ?_
  rintro e w1 ⟨rfl, rfl⟩
  go_wp2
  go_ret
  exact ⟨rfl, Dn.refl _⟩
set_option maxHeartbeats 1000000 in
theorem lead_cut {B : Nat} {w : World} {h n : Nat} {s : St} {lv : Nat → Value} {cv : Value} (c : Gp B w h n s lv cv) {i : Nat} (hi : i < n) (a0 : (s.nd i).down = false) (a1 : (s.nd i).cut = true) :
    Calls Try.prog 11 #[.pointer (some ⟨h, 0, none⟩), .int .i64 (i : Int)] w fun e w' => e = .returned (.int .i64 25) ∧ Dn w w' := by
  have hn7 := c.n7
  obtain ⟨p0, p1, _⟩ := c.at_ (i := i) (by omega)
  rw [a0] at p0
  rw [a1] at p1
  have HC := Lib.hid c
  clear c
  go_enter Try.func11, Try.ntmps11
  go_wp2_with fail
  refine (find_ok HC.out rfl hi).mono ?_
  rintro e w1 ⟨rfl, rfl⟩
  go_wp2
  go_ret
  exact ⟨rfl, Dn.refl _⟩
set_option maxHeartbeats 4000000 in
theorem lead_q {B : Nat} {w : World} {h n : Nat} {s : St} {lv : Nat → Value} {cv : Value} (c : Gp B w h n s lv cv) {i : Nat} (hi : i < n) (a0 : (s.nd i).down = false) (a1 : (s.nd i).cut = false) (hq : 2 * rcnt s n ≤ n) :
    Calls Try.prog 11 #[.pointer (some ⟨h, 0, none⟩), .int .i64 (i : Int)] w fun e w' => e = .returned (.int .i64 23) ∧ Dn w w' := by
  have hn7 := c.n7
  obtain ⟨p0, p1, _⟩ := c.at_ (i := i) (by omega)
  rw [a0] at p0
  rw [a1] at p1
  obtain ⟨_, _, _, _, _, g0, _⟩ := c.at_ (i := 0) (by omega)
  have HC := Lib.hid c
  clear c
  go_enter Try.func11, Try.ntmps11
  go_wp2_with fail
  refine (find_ok HC.out rfl hi).mono ?_
  rintro e w1 ⟨rfl, rfl⟩
  go_wp2
  go_loopw [7, 8, 9, 35] (fun a b d j wr => ∃ k r g : Nat, ∃ bo : Option Nat, k ≤ n ∧ a = .int .i64 r ∧ b = .int .i64 g ∧ d = bval bo ∧ j = .int .i64 k ∧ Hid (r = rcnt s k) ∧ Hid (g = gr s k) ∧ Hid (bo = bst s k) ∧ Hid (Dn w wr)) (fun _ _ _ j _ => n - (intOf j).toNat)
  case atStart => exact ⟨0, 0, 0, none, Nat.zero_le _, rfl, rfl, rfl, rfl, rfl, rfl, rfl, Dn.refl _⟩
  case round =>
    obtain ⟨k, r, g, bo, hk, rfl, rfl, rfl, rfl, HR, HG, HBO, HD⟩ := hrel
    have hrk : r ≤ 7 := by rw [HR.out]; exact Nat.le_trans (cnt_le _ _) (by omega)
    obtain ⟨q, hwr⟩ := HD.out
    have HCR : Hid (Gp B wr h n s lv cv) := by rw [hwr]; exact HC.out.drewN q
    clear hwr
    obtain ⟨_, _, _, _, _, g0, _⟩ := HCR.out.at_ (i := 0) (by omega)
    by_cases hkn : k < n
    · have hk7 : (k : Int) < 7 := by omega
      have CR := reach_any HCR.out (i := k) (by omega)
      obtain ⟨_, _, k2, _⟩ := HCR.out.at_ (i := k) (by omega)
      have he6 := (HCR.out.e k (by omega)).1
      cases hu : up (s.nd k) with
      | false =>
        rw [hu] at CR
        have HCAL := Lib.hid CR
        have H1 : Hid (r = rcnt s (k + 1)) := by rw [HR.out]; exact (cnt_no _ hu).symm
        have H2 : Hid (g = gr s (k + 1)) := by rw [HG.out]; simp only [gr, hu, Bool.false_eq_true, if_false]; first | exact rfl | exact trivial
        have H3 : Hid (bo = bst s (k + 1)) := by rw [HBO.out]; simp only [bst, hu, Bool.false_eq_true, if_false]; first | exact rfl | exact trivial
        clear CR hu
        go_wp2_with fail
        refine HCAL.out.mono ?_
        rintro e w2 ⟨rfl, rfl⟩
        go_wp2
        go_roundw
        case rel => exact ⟨k + 1, r, g, bo, by omega, rfl, rfl, rfl, by go_num, H1, H2, H3, HD⟩
        case measure => simp [intOf]; omega
      | true =>
        rw [hu] at CR
        have HCAL := Lib.hid CR
        have hw1 : IntKind.i64.wrap ((r : Int) + 1) = (r : Int) + 1 := IntWalk.i64_in _ (by omega)
        have H1 : Hid (r + 1 = rcnt s (k + 1)) := by rw [HR.out]; exact (cnt_up _ hu).symm
        have HU := Lib.hid hu
        clear CR hu
        by_cases hgt : g < (s.nd k).ep
        · have H2 : Hid ((s.nd k).ep = gr s (k + 1)) := by
            have h1 := HG.out
            have h2 : gr s k < (s.nd k).ep := by omega
            simp only [gr, HU.out, if_true, h2]; first | exact rfl | exact trivial
          have hgt1 : ((g : Int) < ((s.nd k).ep : Int)) := by omega
          have hgt2 : ((((s.nd k).ep : Int)) < (g : Int)) = False := eq_false (by omega)
          cases bo with
          | none =>
            have H3 : Hid (some k = bst s (k + 1)) := by
              simp only [bst, HU.out, if_true]; rw [← HBO.out]; first | exact rfl | exact trivial
            unfold bval
            go_wp2_with fail
            refine HCAL.out.mono ?_
            rintro e w2 ⟨rfl, rfl⟩
            go_wp2
            go_roundw
            case rel => exact ⟨k + 1, r + 1, ((s.nd k).ep), some k, by omega, by go_num, by go_num, rfl, by go_num, H1, H2, H3, HD⟩
            case measure => simp [intOf]; omega
          | some b =>
            have hbl := (bst_lt s k b HBO.out.symm).1
            have hb7 : (b : Int) < 7 := by omega
            have CB := better_any HCR.out (i := k) (j := b) (by omega) (by omega)
            have hb0 : ((b : Int) < 0) = False := eq_false (by omega)
            cases hbt : bet (s.nd k).log (s.nd b).log with
            | true =>
              rw [hbt] at CB
              have HCB := Lib.hid CB
              have H3 : Hid (some k = bst s (k + 1)) := by
                simp only [bst, HU.out, if_true]; rw [← HBO.out]; simp only [hbt, if_true]; first | exact rfl | exact trivial
              clear CB hbt
              unfold bval
              go_wp2_with fail
              refine HCAL.out.mono ?_
              rintro e w2 ⟨rfl, rfl⟩
              go_wp2_with fail
              refine HCB.out.mono ?_
              rintro e w2 ⟨rfl, hd2⟩
              have HD2 := Lib.hid (HD.out.on hd2)
              clear hd2
              go_wp2
              go_roundw
              case rel => exact ⟨k + 1, r + 1, ((s.nd k).ep), some k, by omega, by go_num, by go_num, rfl, by go_num, H1, H2, H3, HD2⟩
              case measure => simp [intOf]; omega
            | false =>
              rw [hbt] at CB
              have HCB := Lib.hid CB
              have H3 : Hid (some b = bst s (k + 1)) := by
                simp only [bst, HU.out, if_true]; rw [← HBO.out]; simp only [hbt, Bool.false_eq_true, if_false]; first | exact rfl | exact trivial
              clear CB hbt
              unfold bval
              go_wp2_with fail
              refine HCAL.out.mono ?_
              rintro e w2 ⟨rfl, rfl⟩
              go_wp2_with fail
              refine HCB.out.mono ?_
              rintro e w2 ⟨rfl, hd2⟩
              have HD2 := Lib.hid (HD.out.on hd2)
              clear hd2
              go_wp2
              go_roundw
              case rel => exact ⟨k + 1, r + 1, ((s.nd k).ep), some b, by omega, by go_num, by go_num, rfl, by go_num, H1, H2, H3, HD2⟩
              case measure => simp [intOf]; omega
        · have H2 : Hid (g = gr s (k + 1)) := by
            have h1 := HG.out
            have h2 : ¬ gr s k < (s.nd k).ep := by omega
            simp only [gr, HU.out, if_true, h2, if_false]; exact h1
          have hgt1 : ((g : Int) < ((s.nd k).ep : Int)) = False := eq_false (by omega)
          cases bo with
          | none =>
            have H3 : Hid (some k = bst s (k + 1)) := by
              simp only [bst, HU.out, if_true]; rw [← HBO.out]; first | exact rfl | exact trivial
            unfold bval
            go_wp2_with fail
            refine HCAL.out.mono ?_
            rintro e w2 ⟨rfl, rfl⟩
            go_wp2
            go_roundw
            case rel => exact ⟨k + 1, r + 1, g, some k, by omega, by go_num, by go_num, rfl, by go_num, H1, H2, H3, HD⟩
            case measure => simp [intOf]; omega
          | some b =>
            have hbl := (bst_lt s k b HBO.out.symm).1
            have hb7 : (b : Int) < 7 := by omega
            have CB := better_any HCR.out (i := k) (j := b) (by omega) (by omega)
            have hb0 : ((b : Int) < 0) = False := eq_false (by omega)
            cases hbt : bet (s.nd k).log (s.nd b).log with
            | true =>
              rw [hbt] at CB
              have HCB := Lib.hid CB
              have H3 : Hid (some k = bst s (k + 1)) := by
                simp only [bst, HU.out, if_true]; rw [← HBO.out]; simp only [hbt, if_true]; first | exact rfl | exact trivial
              clear CB hbt
              unfold bval
              go_wp2_with fail
              refine HCAL.out.mono ?_
              rintro e w2 ⟨rfl, rfl⟩
              go_wp2_with fail
              refine HCB.out.mono ?_
              rintro e w2 ⟨rfl, hd2⟩
              have HD2 := Lib.hid (HD.out.on hd2)
              clear hd2
              go_wp2
              go_roundw
              case rel => exact ⟨k + 1, r + 1, g, some k, by omega, by go_num, by go_num, rfl, by go_num, H1, H2, H3, HD2⟩
              case measure => simp [intOf]; omega
            | false =>
              rw [hbt] at CB
              have HCB := Lib.hid CB
              have H3 : Hid (some b = bst s (k + 1)) := by
                simp only [bst, HU.out, if_true]; rw [← HBO.out]; simp only [hbt, Bool.false_eq_true, if_false]; first | exact rfl | exact trivial
              clear CB hbt
              unfold bval
              go_wp2_with fail
              refine HCAL.out.mono ?_
              rintro e w2 ⟨rfl, rfl⟩
              go_wp2_with fail
              refine HCB.out.mono ?_
              rintro e w2 ⟨rfl, hd2⟩
              have HD2 := Lib.hid (HD.out.on hd2)
              clear hd2
              go_wp2
              go_roundw
              case rel => exact ⟨k + 1, r + 1, g, some b, by omega, by go_num, by go_num, rfl, by go_num, H1, H2, H3, HD2⟩
              case measure => simp [intOf]; omega
    · obtain rfl : k = n := by omega
      have hle : 2 * r ≤ k := by rw [HR.out]; exact hq
      have hw2 : IntKind.i64.wrap (2 * (r : Int)) = 2 * (r : Int) := IntWalk.i64_in _ (by omega)
      go_wp2
      go_ret
      exact ⟨rfl, HD.out⟩
end Rp
end Go.Proofs.Ytdbpbpnbcjbchaa
