/- The reference of the claims as an object in memory; its New, can and Open. -/
import Derived.Test.YtpalmlcepppifaaClmWrite
set_option linter.unusedVariables false
namespace Go.Proofs.Ytpalmlcepppifaa
open Go.RowKit Go.ChangeShapes

/-- Prizes of the reference: number, amount, from, expiry, state. -/
def Five (N : Nat → ByteArray) (A F E S : Nat → Int) : Nat → Value := fun j => if j % 5 = 0 then .string (N (j / 5)) else if j % 5 = 1 then .int .i64 (A (j / 5)) else if j % 5 = 2 then .int .i64 (F (j / 5)) else if j % 5 = 3 then .int .i64 (E (j / 5)) else .int .i64 (S (j / 5))
theorem Five_at (N : Nat → ByteArray) (A F E S : Nat → Int) (k : Nat) : Five N A F E S (k * 5) = .string (N k) ∧ Five N A F E S (k * 5 + 1) = .int .i64 (A k) ∧ Five N A F E S (k * 5 + 2) = .int .i64 (F k) ∧ Five N A F E S (k * 5 + 3) = .int .i64 (E k) ∧ Five N A F E S (k * 5 + 4) = .int .i64 (S k) := by
  unfold Five
  refine ⟨?_, ?_, ?_, ?_, ?_⟩
  · rw [if_pos (by omega), show k * 5 / 5 = k by omega]
  · rw [if_neg (by omega), if_pos (by omega), show (k * 5 + 1) / 5 = k by omega]
  · rw [if_neg (by omega), if_neg (by omega), if_pos (by omega), show (k * 5 + 2) / 5 = k by omega]
  · rw [if_neg (by omega), if_neg (by omega), if_neg (by omega), if_pos (by omega), show (k * 5 + 3) / 5 = k by omega]
  · rw [if_neg (by omega), if_neg (by omega), if_neg (by omega), if_neg (by omega), show (k * 5 + 4) / 5 = k by omega]
theorem row_five (m : Nat) (G : Nat → Value) : row (m + 5) G = row m G ++ [G m, G (m + 1), G (m + 2), G (m + 3), G (m + 4)] := by
  rw [row_one (m + 4), row_four m, List.append_assoc]; rfl
theorem Cells.five {w : World} {D : Option Addr} {n : Nat} {N : Nat → ByteArray} {A F E S : Nat → Int} (h : Cells w D (n * 5) (Five N A F E S)) {k : Nat} (hk : k < n) :
    ∃ b off, D = some ⟨b, off, none⟩ ∧ b < w.heap.size ∧ w.cell? ⟨b, off + k * 5, none⟩ = some (.string (N k)) ∧ w.cell? ⟨b, off + k * 5 + 1, none⟩ = some (.int .i64 (A k)) ∧ w.cell? ⟨b, off + k * 5 + 2, none⟩ = some (.int .i64 (F k)) ∧ w.cell? ⟨b, off + k * 5 + 3, none⟩ = some (.int .i64 (E k)) ∧ w.cell? ⟨b, off + k * 5 + 4, none⟩ = some (.int .i64 (S k)) := by
  obtain ⟨b, off, e, hlt, hc⟩ := h (by omega)
  obtain ⟨h0, h1, h2, h3, h4⟩ := Five_at N A F E S k
  exact ⟨b, off, e, hlt, (hc (k * 5) (by omega)).trans (by rw [h0]), (hc (k * 5 + 1) (by omega)).trans (by rw [h1]), (hc (k * 5 + 2) (by omega)).trans (by rw [h2]), (hc (k * 5 + 3) (by omega)).trans (by rw [h3]), (hc (k * 5 + 4) (by omega)).trans (by rw [h4])⟩
theorem row_next5 {N : Nat → ByteArray} {A F E S : Nat → Int} {n : Nat} {s : ByteArray} {a f t y : Int} : row ((n + 1) * 5) (Five (upd N n s) (upd A n a) (upd F n f) (upd E n t) (upd S n y)) = row (n * 5) (Five N A F E S) ++ [.string s, .int .i64 a, .int .i64 f, .int .i64 t, .int .i64 y] := by
  obtain ⟨h0, h1, h2, h3, h4⟩ := Five_at (upd N n s) (upd A n a) (upd F n f) (upd E n t) (upd S n y) n
  rw [show (n + 1) * 5 = n * 5 + 5 by omega, row_five, h0, h1, h2, h3, h4, upd_same, upd_same, upd_same, upd_same, upd_same]
  congr 1
  refine row_congr fun j hj => ?_
  unfold Five
  have e : j / 5 ≠ n := by omega
  rw [upd_ne N _ e, upd_ne A _ e, upd_ne F _ e, upd_ne E _ e, upd_ne S _ e]
theorem row_set5 {N : Nat → ByteArray} {A F E S : Nat → Int} {n m : Nat} {y : Int} (hm : m < n) : (row (n * 5) (Five N A F E S)).set (m * 5 + 4) (.int .i64 y) = row (n * 5) (Five N A F E (upd S m y)) := by
  apply List.ext_getElem?
  intro i
  by_cases hi : i < n * 5
  · rw [row_get hi]
    by_cases e : m * 5 + 4 = i
    · subst e
      rw [List.getElem?_set_self (by rw [row_length]; exact hi), (Five_at N A F E (upd S m y) m).2.2.2.2, upd_same]
    · rw [List.getElem?_set_ne e, row_get hi]
      unfold Five
      by_cases e4 : i % 5 = 4
      · rw [if_neg (by omega), if_neg (by omega), if_neg (by omega), if_neg (by omega), if_neg (by omega), if_neg (by omega), if_neg (by omega), if_neg (by omega), upd_ne S y (by omega)]
      · by_cases e0 : i % 5 = 0
        · rw [if_pos e0, if_pos e0]
        · rw [if_neg e0, if_neg e0]
          by_cases e1 : i % 5 = 1
          · rw [if_pos e1, if_pos e1]
          · rw [if_neg e1, if_neg e1]
            by_cases e2 : i % 5 = 2
            · rw [if_pos e2, if_pos e2]
            · rw [if_neg e2, if_neg e2, if_pos (by omega), if_pos (by omega)]
  · rw [List.getElem?_eq_none (by rw [List.length_set, row_length]; omega), List.getElem?_eq_none (by rw [row_length]; omega)]

/-- The reference's object. -/
structure Rf (B : Nat) (w : World) (h n : Nat) (N : Nat → ByteArray) (A F E S : Nat → Int) (v : Value) : Prop where
  blk : Blk w h 96 #[v]
  own : w.ownsRow B 98 5 v n (row (n * 5) (Five N A F E S))
  hB : B ≤ h
  n8 : n ≤ 8192
  st : ∀ i, i < n → 1 ≤ A i ∧ A i ≤ 1000000000000
  ss : ∀ i, i < n → 0 ≤ S i ∧ S i ≤ 2
def Refs (B : Nat) (w : World) (h n : Nat) (N : Nat → ByteArray) (A F E S : Nat → Int) : Prop := ∃ v, Rf B w h n N A F E S v
theorem Rf.keep {B : Nat} {w w1 : World} {h n : Nat} {N : Nat → ByteArray} {A F E S : Nat → Int} {v : Value} (c : Rf B w h n N A F E S v) (hb : Below w.heap.size w w1) : Rf B w1 h n N A F E S v :=
  ⟨c.blk.keep hb, own_keep c.own hb, c.hB, c.n8, c.st, c.ss⟩
theorem Refs.keep {B : Nat} {w w1 : World} {h n : Nat} {N : Nat → ByteArray} {A F E S : Nat → Int} (c : Refs B w h n N A F E S) (hb : Below w.heap.size w w1) : Refs B w1 h n N A F E S := by
  obtain ⟨v, c⟩ := c; exact ⟨v, c.keep hb⟩
theorem Rf.pvh {B : Nat} {w : World} {h n : Nat} {N : Nat → ByteArray} {A F E S : Nat → Int} {v : Value} (c : Rf B w h n N A F E S v) : v.ownBlock ≠ some h := fun e => by
  obtain ⟨cur, hh⟩ := own_obj c.own e
  have := c.blk
  unfold Blk at this
  rw [this] at hh
  injection hh with hh
  injection hh with _ hh
  revert hh; decide
/-- Steps that turn, beyond what they make, only the reference's object or its row. -/
inductive Kr : World → World → Prop where
  | refl (w : World) : Kr w w
  | step {w w1 w2 : World} {r : Option Nat} (h : Kr w w1) (hg : w1.grownBy w2 r) (hr : ∀ j, r = some j → ∃ cs, w1.heap[j]? = some (.cells cs 96 (0, 0)) ∨ w1.heap[j]? = some (.cells cs 98 (0, 0))) : Kr w w2
theorem Kr.trans {w w1 w2 : World} (h : Kr w w1) (k : Kr w1 w2) : Kr w w2 := by
  induction k with
  | refl => exact h
  | step _ hg hr ih => exact .step ih hg hr
theorem Kr.old {w w1 : World} (h : Below w.heap.size w w1) : Kr w w1 := .step (.refl w) (only_below2 h none) (fun j hj => by cases hj)
theorem Kr.only {w w1 : World} {r : Option Nat} (hg : w.grownBy w1 r) (hr : ∀ j, r = some j → ∃ cs, w.heap[j]? = some (.cells cs 96 (0, 0)) ∨ w.heap[j]? = some (.cells cs 98 (0, 0))) : Kr w w1 := .step (.refl w) hg hr

theorem rnew_any (w : World) (N : Nat → ByteArray) (A F E S : Nat → Int) :
    Calls Try.prog 38 #[] w fun e w' => ∃ h, e = .returned (.pointer (some ⟨h, 0, none⟩)) ∧ Refs w.heap.size w' h 0 N A F E S ∧ Below w.heap.size w w' := by
  have hC : Refs w.heap.size (w.alloc (.cells #[.slice none 0 0] 96)) w.heap.size 0 N A F E S :=
    ⟨.slice none 0 0, Blk.new2 (by simp), World.ownsRow_nil _ _ _ _, by omega, by omega, fun i hi => absurd hi (by omega), fun i hi => absurd hi (by omega)⟩
  have HC := Lib.hid hC
  have HB := Lib.hid ((Below.refl w.heap.size w).alloc (Nat.le_refl _) (.cells #[.slice none 0 0] 96))
  clear hC
  go_enter Try.func38, Try.ntmps38
  go_wp2
  go_ret
  exact ⟨_, rfl, HC.out, HB.out⟩

theorem can_any {s : ByteArray} {a f t y at_ : Int} {w : World} : Calls Try.prog 65 #[.agg #[.string s, .int .i64 a, .int .i64 f, .int .i64 t, .int .i64 y], .int .i64 at_] w fun e w' => e = .returned (.bool (decide (y = 0) && decide (f ≤ at_) && decide (at_ ≤ t))) ∧ Below w.heap.size w w' := by
  have hb := (Below.refl w.heap.size w).alloc (Nat.le_refl _) (.cells #[.string s, .int .i64 a, .int .i64 f, .int .i64 t, .int .i64 y] 98)
  have HB := Lib.hid hb
  clear hb
  by_cases h0 : y = 0
  · subst h0
    by_cases h1 : f ≤ at_
    · by_cases h2 : at_ ≤ t
      all_goals
        go_enter Try.func65, Try.ntmps65
        go_wp2
        go_ret
        exact ⟨ret_bool (by simp [h1, h2]), HB.out⟩
    · go_enter Try.func65, Try.ntmps65
      go_wp2
      go_ret
      exact ⟨ret_bool (by simp; omega), HB.out⟩
  · have hd : (y == 0) = false := by simp [h0]
    have HD := Lib.hid h0
    clear h0
    go_enter Try.func65, Try.ntmps65
    go_wp2
    go_ret
    exact ⟨ret_bool (by simp [HD.out]), HB.out⟩

set_option maxHeartbeats 1000000 in
theorem ropen_any {B : Nat} {w : World} {h n : Nat} {N : Nat → ByteArray} {A F E S : Nat → Int} (c : Refs B w h n N A F E S) :
    Calls Try.prog 41 #[.pointer (some ⟨h, 0, none⟩)] w fun e w' => e = .returned (.int .i64 (cnt S n)) ∧ Below w.heap.size w w' := by
  obtain ⟨v, c⟩ := c
  have hn8 := c.n8
  obtain ⟨pA, pc, hpv, _⟩ := own_slice c.own
  subst hpv
  have HBLK := Lib.hid c.blk
  have q0 := c.blk.cell 0
  simp at q0
  have HP := Lib.hid (Cells.of_own c.own)
  clear c
  go_enter Try.func41, Try.ntmps41
  go_wp2
  go_loopw [3, 4] (fun x i wr => ∃ k : Nat, k ≤ n ∧ i = .int .i64 k ∧ x = .int .i64 (cnt S k) ∧ Below w.heap.size w wr) (fun _ i _ => n - (intOf i).toNat)
  case atStart => exact ⟨0, Nat.zero_le _, rfl, rfl, Below.refl _ _⟩
  case round =>
    obtain ⟨k, hk, rfl, rfl, hbw⟩ := hrel
    clear q0
    have q0 := (HBLK.out.keep hbw).cell 0
    simp at q0
    by_cases hkn : k < n
    · obtain ⟨bp, op, hpe, hplt, p0, p1, p2, p3, p4⟩ := (HP.out.below hbw).five hkn
      subst hpe
      have hck : cnt S k ≤ k := by
        clear p0 p1 p2 p3 p4 hkn hk
        induction k with
        | zero => exact Nat.le_refl _
        | succ k ih => simp only [cnt]; split <;> omega
      by_cases h0 : S k = 0
      · have P0 := Lib.hid (show cnt S (k + 1) = cnt S k + 1 by simp only [cnt]; rw [if_pos h0])
        have d0 : (S k == 0) = true := by simp [h0]
        clear h0
        go_wp2
        go_roundw
        case rel => exact ⟨k + 1, by omega, by go_num, by rw [P0.out]; go_num, hbw⟩
        case measure => simp [intOf] <;> omega
      · have P0 := Lib.hid (show cnt S (k + 1) = cnt S k by simp only [cnt]; rw [if_neg h0])
        have d0 : (S k == 0) = false := by simp [h0]
        clear h0
        go_wp2
        go_roundw
        case rel => exact ⟨k + 1, by omega, by go_num, by rw [P0.out], hbw⟩
        case measure => simp [intOf] <;> omega
    · obtain rfl : k = n := by omega
      go_wp2
      go_ret
      exact ⟨rfl, hbw⟩
end Go.Proofs.Ytpalmlcepppifaa
