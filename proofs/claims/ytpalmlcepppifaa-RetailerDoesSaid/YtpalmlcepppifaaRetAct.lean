/- The walks of the retailer's account: New, Settle, and a call of the law's script. -/
import Derived.Test.YtpalmlcepppifaaRetOpen
set_option linter.unusedVariables false
namespace Go.Proofs.Ytpalmlcepppifaa
open Go.RowKit

/-- The account's settlement is returned; the account is as said; nothing older has turned but it. -/
def Told (w : World) (g : Nat) (t : Rt.Tm) (x' : Rt.St) (v : Value) (e : Ending) (w' : World) : Prop :=
  e = .returned v ∧ Obj w' g t x' ∧ w.grownBy w' (some g)
theorem only_below2 {w w1 : World} (h : Below w.heap.size w w1) (r : Option Nat) : w.grownBy w1 r := ⟨h.os, h.tape, h.output, h.size, fun i hi _ => h.block i hi⟩

theorem only_new {a w : World} {r : Option Nat} {b : Nat} (h : a.grownBy w r) (hb : a.heap.size ≤ b) (i : Nat) (u : Value) : a.grownBy (w.setCell ⟨b, i, none⟩ u) r :=
  ⟨h.os, h.tape, h.output, by simpa [World.setCell] using h.size, fun k hk hne => (Below.heap_setCell w ⟨b, i, none⟩ u k (by simp; omega)).trans (h.block k hk hne)⟩
theorem Blk.other {w : World} {g b : Nat} {t : TypeId} {cs : Array Value} (h : Blk w g t cs) (hb : g ≠ b) (i : Nat) (u : Value) : Blk (w.setCell ⟨b, i, none⟩ u) g t cs :=
  (Below.heap_setCell w ⟨b, i, none⟩ u g hb).trans h

theorem Blk.new_ {w : World} {t : TypeId} {cs : Array Value} {n : Nat} (hn : n = w.heap.size) : Blk (w.alloc (.cells cs t)) n t cs := by subst hn; exact Blk.new w t cs
set_option maxHeartbeats 1000000 in
theorem settle_any {w : World} {g : Nat} {t : Rt.Tm} {x : Rt.St} (h : Obj w g t x) (ht : Rt.okT t) (hx : Rt.okS x) :
    Calls Try.prog 35 #[.pointer (some ⟨g, 0, none⟩)] w (Told w g t Rt.zero (.agg (setC t x))) := by
  have hlt := h.lt
  obtain ⟨W, hW⟩ : ∃ W, W = w.alloc (.cells #[.int .i64 0, .int .i64 0, .int .i64 0, .int .i64 0, .int .i64 0] 44) := ⟨_, rfl⟩
  have hO : Obj W g t x := by rw [hW]; exact h.alloc _
  have hR : Blk W w.heap.size 44 #[.int .i64 0, .int .i64 0, .int .i64 0, .int .i64 0, .int .i64 0] := by rw [hW]; exact Blk.new w _ _
  have hB : Below w.heap.size w W := by rw [hW]; exact (Below.refl _ _).alloc (Nat.le_refl _) _
  have HO := Lib.hid hO
  have HR := Lib.hid hR
  have HB := Lib.hid hB
  have HW := Lib.hid hW
  have HT := Lib.hid ht
  have HX := Lib.hid hx
  clear h hO hR hB hW ht hx
  have hset : ∃ a0 a1 a2 a3 a4 : Int, setC t x = #[.int .i64 a0, .int .i64 a1, .int .i64 a2, .int .i64 a3, .int .i64 a4] := ⟨_, _, _, _, _, rfl⟩
  obtain ⟨a0, a1, a2, a3, a4, hset⟩ := hset
  have HS := Lib.hid hset
  clear hset
  rw [HS.out]
  go_enter Try.func35, Try.ntmps35
  go_wp2_with fail
  rw [← HW.out]
  clear HW
  refine (open_any HO.out HT.out HX.out).mono ?_
  rintro e w1 ⟨rfl, hb1⟩
  rw [HS.out]
  have hO1 : Obj w1 g t x := HO.out.keep hb1
  have hR1 := HR.out.keep hb1
  have hsz := hR1.lt
  have hsz2 := hb1.size
  have HB1 := Lib.hid (HB.out.trans (hb1.mono HB.out.size))
  obtain ⟨q0, q1, q2, q3, q4, q5, q6, q7, f0, f1, f2⟩ := hO1.at_
  obtain ⟨j0, j1, j2, j3, j4, i0, i1, i2, i3, i4⟩ := set_at hR1
  have HO1 := Lib.hid hO1
  have hg1 : g < w1.heap.size := by omega
  have hne : g ≠ w.heap.size := by omega
  clear hO1 hR1 hb1 HB HO HR
  go_wp2
  refine bodyPost_ret (v := .agg #[.int .i64 a0, .int .i64 a1, .int .i64 a2, .int .i64 a3, .int .i64 a4]) (by simp [results, Try.results35, go_sem, j0, j1, j2, j3, j4, hsz]) rfl ⟨rfl, ?_, ?_⟩
  · exact ((((((((HO1.out.set_ 0 _).set_ 1 _).set_ 2 _).other hne _ _).other hne _ _).other hne _ _).other hne _ _).other hne _ _).alloc _
  · refine only_alloc ?_ _
    exact only_new (only_new (only_new (only_new (only_new (only_set (only_set (only_set (only_below2 HB1.out _) _ _) _ _) _ _) (Nat.le_refl _) _ _) (Nat.le_refl _) _ _) (Nat.le_refl _) _ _) (Nat.le_refl _) _ _) (Nat.le_refl _) _ _

/-- A nil account. -/
theorem sale_nil {a : Int} {w : World} : Calls Try.prog 32 #[.pointer none, .int .i64 a] w fun e w' => e = .returned (.int .i64 5) ∧ w = w' := by
  go_enter Try.func32, Try.ntmps32
  go_wp2
  go_ret
  exact ⟨rfl, rfl⟩
theorem refund_nil {a : Int} {w : World} : Calls Try.prog 33 #[.pointer none, .int .i64 a] w fun e w' => e = .returned (.int .i64 5) ∧ w = w' := by
  go_enter Try.func33, Try.ntmps33
  go_wp2
  go_ret
  exact ⟨rfl, rfl⟩
theorem cash_nil {a : Int} {w : World} : Calls Try.prog 34 #[.pointer none, .int .i64 a] w fun e w' => e = .returned (.int .i64 5) ∧ w = w' := by
  go_enter Try.func34, Try.ntmps34
  go_wp2
  go_ret
  exact ⟨rfl, rfl⟩
theorem open_nil {w : World} : Calls Try.prog 26 #[.pointer none] w fun e w' => e = .returned (.agg zeroC) ∧ Below w.heap.size w w' := by
  unfold zeroC
  go_enter Try.func26, Try.ntmps26
  go_wp2
  exact bodyPost_ret (v := .agg #[.int .i64 0, .int .i64 0, .int .i64 0, .int .i64 0, .int .i64 0]) (by simp [results, Try.results26, go_sem]) rfl ⟨rfl, (Below.refl _ _).alloc (Nat.le_refl _) _⟩
theorem settle_nil {w : World} : Calls Try.prog 35 #[.pointer none] w fun e w' => e = .returned (.agg zeroC) ∧ Below w.heap.size w w' := by
  have hR : Blk (w.alloc (.cells #[.int .i64 0, .int .i64 0, .int .i64 0, .int .i64 0, .int .i64 0] 44)) w.heap.size 44 #[.int .i64 0, .int .i64 0, .int .i64 0, .int .i64 0, .int .i64 0] := Blk.new w _ _
  have hB : Below w.heap.size w (w.alloc (.cells #[.int .i64 0, .int .i64 0, .int .i64 0, .int .i64 0, .int .i64 0] 44)) := (Below.refl _ _).alloc (Nat.le_refl _) _
  have HR := Lib.hid hR
  have HB := Lib.hid hB
  clear hR hB
  unfold zeroC
  go_enter Try.func35, Try.ntmps35
  go_wp2_with fail
  refine open_nil.mono ?_
  rintro e w1 ⟨rfl, hb1⟩
  have hR1 := HR.out.keep hb1
  have hsz := hR1.lt
  obtain ⟨j0, j1, j2, j3, j4, i0, i1, i2, i3, i4⟩ := set_at hR1
  have HB1 := Lib.hid (HB.out.trans (hb1.mono HB.out.size))
  clear hR1 hb1 HB HR
  unfold zeroC
  go_wp2
  refine bodyPost_ret (v := .agg #[.int .i64 0, .int .i64 0, .int .i64 0, .int .i64 0, .int .i64 0]) (by simp [results, Try.results35, go_sem, j0, j1, j2, j3, j4, hsz]) rfl ⟨rfl, ?_⟩
  exact (((((HB1.out.setCell (p := ⟨w.heap.size, 0, none⟩) (Nat.le_refl _) _).setCell (p := ⟨w.heap.size, 1, none⟩) (Nat.le_refl _) _).setCell (p := ⟨w.heap.size, 2, none⟩) (Nat.le_refl _) _).setCell (p := ⟨w.heap.size, 3, none⟩) (Nat.le_refl _) _).setCell (p := ⟨w.heap.size, 4, none⟩) (Nat.le_refl _) _).alloc (by simp; omega) _

/-- The terms as a value. -/
def termsC (t : Rt.Tm) : Array Value := #[.int .i64 t.sale, .int .i64 t.cash, .int .i64 t.bonus, .int .i64 t.above, .int .i64 t.credit]
set_option maxHeartbeats 1000000 in
theorem new_ok {w : World} {t : Rt.Tm} (ht : Rt.okT t) :
    Calls Try.prog 24 #[.agg (termsC t)] w fun e w' => ∃ g, e = .returned (.tuple #[.pointer (some ⟨g, 0, none⟩), .int .i64 0]) ∧ w.heap.size ≤ g ∧ Obj w' g t Rt.zero ∧ Below w.heap.size w w' := by
  unfold termsC
  obtain ⟨⟨l0, l1⟩, ⟨m0, m1⟩, ⟨n0, n1⟩, ⟨v0, v1⟩, ⟨k0, k1⟩⟩ := ht
  go_enter Try.func24, Try.ntmps24
  go_wp2
  go_loop [5, 14] (fun v i => ∃ k : Nat, k ≤ 3 ∧ i = .int .i64 k) (fun _ i => 3 - (intOf i).toNat)
  case atStart => exact ⟨0, by omega, rfl⟩
  case round =>
    obtain ⟨k, hk, rfl⟩ := hrel
    rcases (show k = 0 ∨ k = 1 ∨ k = 2 ∨ k = 3 by omega) with rfl | rfl | rfl | rfl
    · go_wp2
      go_round
      case rel => exact ⟨1, by omega, rfl⟩
      case measure => simp [intOf]
    · go_wp2
      go_round
      case rel => exact ⟨2, by omega, rfl⟩
      case measure => simp [intOf]
    · go_wp2
      go_round
      case rel => exact ⟨3, by omega, rfl⟩
      case measure => simp [intOf]
    · go_wp2_with fail
      refine (valid_yes _ _ v0 v1).mono ?_
      rintro e w1 ⟨rfl, rfl⟩
      go_wp2_with fail
      refine (valid_yes _ _ k0 k1).mono ?_
      rintro e w1 ⟨rfl, rfl⟩
      go_wp2
      go_ret2
      exact ⟨_, rfl, by omega, Blk.new_ (by simp), ((((Below.refl _ _).alloc (Nat.le_refl _) _).alloc (by simp) _).alloc (by simp; omega) _)⟩
/-- Rate j of the terms. -/
def rateAt (t : Rt.Tm) (j : Nat) : Int := if j = 0 then t.sale else if j = 1 then t.cash else t.bonus
set_option maxHeartbeats 1000000 in
theorem new_bad {w : World} {t : Rt.Tm} (ht : ¬ Rt.okT t) :
    Calls Try.prog 24 #[.agg (termsC t)] w fun e w' => e = .returned (.tuple #[.pointer none, .int .i64 2]) ∧ Below w.heap.size w w' := by
  have hb := ((Below.refl w.heap.size w).alloc (Nat.le_refl _) (.cells #[.int .i64 t.sale, .int .i64 t.cash, .int .i64 t.bonus, .int .i64 t.above, .int .i64 t.credit] 36)).alloc (by simp) (.cells #[.int .i64 t.sale, .int .i64 t.cash, .int .i64 t.bonus] 3)
  have HB := Lib.hid hb
  have HT := Lib.hid ht
  clear hb ht
  unfold termsC
  go_enter Try.func24, Try.ntmps24
  go_wp2
  go_loop [5, 14] (fun v i => ∃ k : Nat, k ≤ 3 ∧ i = .int .i64 k ∧ ∀ j, j < k → Rt.rate (rateAt t j)) (fun _ i => 3 - (intOf i).toNat)
  case atStart => exact ⟨0, by omega, rfl, fun j hj => absurd hj (by omega)⟩
  case round =>
    obtain ⟨k, hk, rfl, hall⟩ := hrel
    have HA := Lib.hid hall
    clear hall
    by_cases hr : k < 3 ∧ ¬ Rt.rate (rateAt t k)
    · obtain ⟨hk3, hr⟩ := hr
      have hr2 : rateAt t k < 0 ∨ 10000 < rateAt t k := by unfold Rt.rate at hr; omega
      clear hr
      rcases (show k = 0 ∨ k = 1 ∨ k = 2 by omega) with rfl | rfl | rfl
      · have hr3 : t.sale < 0 ∨ 10000 < t.sale := hr2
        clear hr2
        rcases hr3 with hr3 | hr3
        all_goals
          go_wp2
          go_ret2
          exact ⟨rfl, HB.out⟩
      · have hr3 : t.cash < 0 ∨ 10000 < t.cash := hr2
        clear hr2
        rcases hr3 with hr3 | hr3
        all_goals
          go_wp2
          go_ret2
          exact ⟨rfl, HB.out⟩
      · have hr3 : t.bonus < 0 ∨ 10000 < t.bonus := hr2
        clear hr2
        rcases hr3 with hr3 | hr3
        all_goals
          go_wp2
          go_ret2
          exact ⟨rfl, HB.out⟩
    · by_cases hk3 : k < 3
      · have hok : Rt.rate (rateAt t k) := Decidable.of_not_not fun h => hr ⟨hk3, h⟩
        have HN : Hid (∀ j, j < k + 1 → Rt.rate (rateAt t j)) := Lib.hid fun j hj => by
          rcases Nat.lt_or_ge j k with h | h
          · exact HA.out j h
          · rw [show j = k by omega]; exact hok
        obtain ⟨r0, r1⟩ := hok
        clear hr
        rcases (show k = 0 ∨ k = 1 ∨ k = 2 by omega) with rfl | rfl | rfl
        · have r2 : 0 ≤ t.sale := r0
          have r3 : t.sale ≤ 10000 := r1
          clear r0 r1
          go_wp2
          go_round
          case rel => exact ⟨1, by omega, rfl, HN.out⟩
          case measure => simp [intOf]
        · have r2 : 0 ≤ t.cash := r0
          have r3 : t.cash ≤ 10000 := r1
          clear r0 r1
          go_wp2
          go_round
          case rel => exact ⟨2, by omega, rfl, HN.out⟩
          case measure => simp [intOf]
        · have r2 : 0 ≤ t.bonus := r0
          have r3 : t.bonus ≤ 10000 := r1
          clear r0 r1
          go_wp2
          go_round
          case rel => exact ⟨3, by omega, rfl, HN.out⟩
          case measure => simp [intOf]
      · obtain rfl : k = 3 := by omega
        clear hr
        by_cases hv : Rt.amt t.above
        · have hc : t.credit < 0 ∨ 1000000000000 < t.credit := by
            have : ¬ Rt.amt t.credit := fun h => HT.out ⟨HA.out 0 (by omega), HA.out 1 (by omega), HA.out 2 (by omega), hv, h⟩
            unfold Rt.amt at this; omega
          obtain ⟨v0, v1⟩ := hv
          have HC := Lib.hid hc
          clear hc
          go_wp2_with fail
          refine (valid_yes _ _ v0 v1).mono ?_
          rintro e w1 ⟨rfl, rfl⟩
          go_wp2_with fail
          refine (valid_no _ _ HC.out).mono ?_
          rintro e w1 ⟨rfl, rfl⟩
          go_wp2
          go_ret2
          exact ⟨rfl, HB.out⟩
        · have hc : t.above < 0 ∨ 1000000000000 < t.above := by
            unfold Rt.amt at hv; omega
          have HC := Lib.hid hc
          clear hc hv
          go_wp2_with fail
          refine (valid_no _ _ HC.out).mono ?_
          rintro e w1 ⟨rfl, rfl⟩
          go_wp2
          go_ret2
          exact ⟨rfl, HB.out⟩
end Go.Proofs.Ytpalmlcepppifaa
