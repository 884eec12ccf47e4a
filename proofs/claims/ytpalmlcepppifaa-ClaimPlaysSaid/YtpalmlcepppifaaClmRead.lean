/- The walks of the claims that only read, New, and the refusals of Add. -/
import Derived.Test.YtpalmlcepppifaaClmAdd
import Derived.Carry
set_option linter.unusedVariables false
namespace Go.Proofs.Ytpalmlcepppifaa
open Go.RowKit Go.Maps Go.ChangeShapes Go.WideElems Go.WideMaps

theorem Blk.new2 {w : World} {t : TypeId} {cs : Array Value} {n : Nat} (hn : n = w.heap.size) : Blk (w.alloc (.cells cs t)) n t cs := by subst hn; exact Blk.new w t cs
def Claims (B : Nat) (w : World) (h n : Nat) (N : Nat → ByteArray) (A F E S : Nat → Int) : Prop := ∃ pv b1 b2 D O, Cl B w h n N A F E S pv b1 b2 D O
theorem Cl.keep {B : Nat} {w w1 : World} {h n : Nat} {N : Nat → ByteArray} {A F E S : Nat → Int} {pv : Value} {b1 b2 : Nat} {D O : DataW Unit} (c : Cl B w h n N A F E S pv b1 b2 D O) (hb : Below w.heap.size w w1) : Cl B w1 h n N A F E S pv b1 b2 D O :=
  ⟨c.blk.keep hb, own_keep c.own hb, grp_keep c.grp (only_below2 hb none) (fun k hk => by cases hk), c.opn.kept (only_below2 hb none) (by simp), c.hO, c.hsz, c.hD, c.hB, c.hB1, c.hB2, c.ne, c.n8, c.st⟩
theorem Claims.keep {B : Nat} {w w1 : World} {h n : Nat} {N : Nat → ByteArray} {A F E S : Nat → Int} (c : Claims B w h n N A F E S) (hb : Below w.heap.size w w1) : Claims B w1 h n N A F E S := by
  obtain ⟨pv, b1, b2, D, O, c⟩ := c; exact ⟨pv, b1, b2, D, O, c.keep hb⟩

set_option maxHeartbeats 1000000 in
theorem cnew_any (w : World) (N : Nat → ByteArray) (A F E S : Nat → Int) :
    Calls Try.prog 18 #[] w fun e w' => ∃ h, e = .returned (.pointer (some ⟨h, 0, none⟩)) ∧ Claims w.heap.size w' h 0 N A F E S ∧ Below w.heap.size w w' := by
  have hg : (w.alloc (.map #[] 0)).ownsGroups (H := Unit) Try.prog 9 (w.heap.size + 1) 3 .i64 w.heap.size 0 (.map []) := World.ownsGroups_made w Try.prog 9 3 .i64
  have hm := World.ownsMap_made (H := Unit) (w.alloc (.map #[] 0)) Try.prog 3 (plainElem Try.prog 4)
  have hb1 : Below (w.alloc (.map #[] 0)).heap.size (w.alloc (.map #[] 0)) (((w.alloc (.map #[] 0)).alloc (.map #[] 0)).alloc (.cells #[.slice none 0 0, .map (some w.heap.size), .map (some (w.heap.size + 1))] 78)) := ((Below.refl _ _).alloc (Nat.le_refl _) _).alloc (by simp) _
  have hg3 := grp_keep hg (only_below2 hb1 none) (fun k hk => by cases hk)
  have hm3 := hm.alloc (.cells #[.slice none 0 0, .map (some w.heap.size), .map (some (w.heap.size + 1))] 78)
  rw [show (w.alloc (.map #[] 0)).heap.size = w.heap.size + 1 by simp] at hm3
  have hbl : Below w.heap.size w (((w.alloc (.map #[] 0)).alloc (.map #[] 0)).alloc (.cells #[.slice none 0 0, .map (some w.heap.size), .map (some (w.heap.size + 1))] 78)) := (((Below.refl _ _).alloc (Nat.le_refl _) _).alloc (by simp) _).alloc (by simp; omega) _
  have hC : Claims w.heap.size (((w.alloc (.map #[] 0)).alloc (.map #[] 0)).alloc (.cells #[.slice none 0 0, .map (some w.heap.size), .map (some (w.heap.size + 1))] 78)) (w.heap.size + 1 + 1) 0 N A F E S :=
    ⟨.slice none 0 0, w.heap.size, w.heap.size + 1, .map [], .map [], Blk.new2 (by simp), World.ownsRow_nil _ _ _ _, hg3, hm3, fun i _ => by simp [Maps.has], rfl, fun s _ => rfl, by omega, by omega, by omega, by omega, by omega, fun i hi => absurd hi (by omega)⟩
  have HC := Lib.hid hC
  have HB := Lib.hid hbl
  clear hg hm hb1 hg3 hm3 hbl hC
  have hmm := @run_makeMap Try.prog
  go_enter Try.func18, Try.ntmps18
  go_wp2
  go_ret
  exact ⟨_, rfl, HC.out, HB.out⟩

/-- The error of Add. -/
def aerr (sz : Nat) (a f t : Int) : Int := if sz < 1 ∨ 24 < sz then 4 else if a < 1 ∨ 1000000000000 < a ∨ f < 0 ∨ t < f ∨ 1073741824 < t then 2 else 0
theorem aerr_ok {sz : Nat} {a f t : Int} (h : aerr sz a f t = 0) : 1 ≤ sz ∧ sz ≤ 24 ∧ 1 ≤ a ∧ a ≤ 1000000000000 ∧ 0 ≤ f ∧ f ≤ t ∧ t ≤ 1073741824 := by
  unfold aerr at h
  by_cases c : sz < 1 ∨ 24 < sz
  · rw [if_pos c] at h; cases h
  · rw [if_neg c] at h
    by_cases d : a < 1 ∨ 1000000000000 < a ∨ f < 0 ∨ t < f ∨ 1073741824 < t
    · rw [if_pos d] at h; cases h
    · omega
theorem add_bad {w : World} {h : Nat} {s : ByteArray} {a f t y : Int} (hy : aerr s.size a f t = y) (hn : y ≠ 0) :
    Calls Try.prog 19 #[.pointer (some ⟨h, 0, none⟩), .string s, .int .i64 a, .int .i64 f, .int .i64 t] w fun e w' => e = .returned (.int .i64 y) ∧ w = w' := by
  unfold aerr at hy
  by_cases c : s.size < 1 ∨ 24 < s.size
  · rw [if_pos c] at hy
    subst hy
    rcases c with c | c
    all_goals
      go_enter Try.func19, Try.ntmps19
      go_wp2
      go_ret
      exact ⟨rfl, rfl⟩
  · rw [if_neg c] at hy
    have c0 : 1 ≤ s.size := by omega
    have c1 : s.size ≤ 24 := by omega
    by_cases d : a < 1 ∨ 1000000000000 < a ∨ f < 0 ∨ t < f ∨ 1073741824 < t
    · rw [if_pos d] at hy
      subst hy
      clear c hn
      have d2 : a < 1 ∨ (1 ≤ a ∧ 1000000000000 < a) ∨ (1 ≤ a ∧ a ≤ 1000000000000 ∧ f < 0) ∨ (1 ≤ a ∧ a ≤ 1000000000000 ∧ 0 ≤ f ∧ t < f) ∨ (1 ≤ a ∧ a ≤ 1000000000000 ∧ 0 ≤ f ∧ f ≤ t ∧ 1073741824 < t) := by omega
      clear d
      rcases d2 with d | ⟨d0, d⟩ | ⟨d0, d1, d⟩ | ⟨d0, d1, d2, d⟩ | ⟨d0, d1, d2, d3, d⟩
      all_goals
        go_enter Try.func19, Try.ntmps19
        go_wp2
        go_ret
        exact ⟨rfl, rfl⟩
    · rw [if_neg d] at hy; exact absurd hy.symm hn

theorem claimable_any {a f t y at_ : Int} {w : World} : Calls Try.prog 43 #[.agg #[.int .i64 a, .int .i64 f, .int .i64 t, .int .i64 y], .int .i64 at_] w fun e w' => e = .returned (.bool (decide (y = 0) && decide (f ≤ at_) && decide (at_ ≤ t))) ∧ Below w.heap.size w w' := by
  have hb := (Below.refl w.heap.size w).alloc (Nat.le_refl _) (.cells #[.int .i64 a, .int .i64 f, .int .i64 t, .int .i64 y] 80)
  have HB := Lib.hid hb
  clear hb
  by_cases h0 : y = 0
  · subst h0
    by_cases h1 : f ≤ at_
    · by_cases h2 : at_ ≤ t
      all_goals
        go_enter Try.func43, Try.ntmps43
        go_wp2
        go_ret
        exact ⟨ret_bool (by simp [h1, h2]), HB.out⟩
    · go_enter Try.func43, Try.ntmps43
      go_wp2
      go_ret
      exact ⟨ret_bool (by simp; omega), HB.out⟩
  · have hd : (y == 0) = false := by simp [h0]
    have HD := Lib.hid h0
    clear h0
    go_enter Try.func43, Try.ntmps43
    go_wp2
    go_ret
    exact ⟨ret_bool (by simp [HD.out]), HB.out⟩

theorem copen_any {B : Nat} {w : World} {h n : Nat} {N : Nat → ByteArray} {A F E S : Nat → Int} (c : Claims B w h n N A F E S) :
    Calls Try.prog 23 #[.pointer (some ⟨h, 0, none⟩)] w fun e w' => e = .returned (.int .i64 (cnt S n)) ∧ w = w' := by
  obtain ⟨pv, b1, b2, D, O, c⟩ := c
  have q2 := c.blk.cell 2
  simp at q2
  have hlen := c.opn.len Try.underlying75 3
  have hsz := c.hsz
  rw [hsz] at hlen
  have H1 := Lib.hid hsz
  clear hsz c
  go_enter Try.func23, Try.ntmps23
  go_wp2
  go_ret
  exact ⟨rfl, rfl⟩

/-- Nil claims. -/
theorem add_nil {s : ByteArray} {a f t : Int} {w : World} : Calls Try.prog 19 #[.pointer none, .string s, .int .i64 a, .int .i64 f, .int .i64 t] w fun e w' => e = .returned (.int .i64 5) ∧ w = w' := by
  go_enter Try.func19, Try.ntmps19
  go_wp2
  go_ret
  exact ⟨rfl, rfl⟩
theorem check_nil {s : ByteArray} {a m : Int} {w : World} : Calls Try.prog 22 #[.pointer none, .string s, .int .i64 a, .int .i64 m] w fun e w' => e = .returned (.tuple #[.int .i64 0, .int .i64 5]) ∧ w = w' := by
  go_enter Try.func22, Try.ntmps22
  go_wp2
  go_ret2
  exact ⟨rfl, rfl⟩
theorem claim_nil {s : ByteArray} {a m : Int} {w : World} : Calls Try.prog 20 #[.pointer none, .string s, .int .i64 a, .int .i64 m] w fun e w' => e = .returned (.tuple #[.int .i64 0, .int .i64 5]) ∧ w = w' := by
  go_enter Try.func20, Try.ntmps20
  go_wp2_with fail
  refine check_nil.mono ?_
  rintro e w1 ⟨rfl, rfl⟩
  go_wp2
  go_ret2
  exact ⟨rfl, rfl⟩
theorem expire_nil {a : Int} {w : World} : Calls Try.prog 37 #[.pointer none, .int .i64 a] w fun e w' => e = .returned (.int .i64 0) ∧ w = w' := by
  go_enter Try.func37, Try.ntmps37
  go_wp2
  go_ret
  exact ⟨rfl, rfl⟩
theorem copen_nil {w : World} : Calls Try.prog 23 #[.pointer none] w fun e w' => e = .returned (.int .i64 0) ∧ w = w' := by
  go_enter Try.func23, Try.ntmps23
  go_wp2
  go_ret
  exact ⟨rfl, rfl⟩
theorem sum_nil {w : World} : Calls Try.prog 36 #[.pointer none] w fun e w' => e = .returned (.tuple #[.int .i64 0, .int .i64 0, .int .i64 0]) ∧ w = w' := by
  go_enter Try.func36, Try.ntmps36
  go_wp2
  go_ret3
  exact ⟨rfl, rfl⟩
end Go.Proofs.Ytpalmlcepppifaa
