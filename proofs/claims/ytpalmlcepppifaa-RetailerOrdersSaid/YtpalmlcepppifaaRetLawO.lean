/- The walk of the law RetailerOrders. -/
import Derived.Test.YtpalmlcepppifaaRetSit
set_option linter.unusedVariables false
namespace Go.Proofs.Ytpalmlcepppifaa
open Go.RowKit

namespace Rt
/-- The sum of the amounts of the first k calls of kind c. -/
def gs (K M : Nat → Int) (c : Int) : Nat → Int
  | 0 => 0
  | k + 1 => gs K M c k + if K k = c then M k else 0
theorem gs_succ (K M : Nat → Int) (c : Int) (k : Nat) : gs K M c (k + 1) = gs K M c k + if K k = c then M k else 0 := rfl
def at_ (K M : Nat → Int) (k : Nat) : St := ⟨gs K M 0 k, gs K M 1 k, gs K M 2 k⟩
def back (K M : Nat → Int) (n k : Nat) : St := ⟨gs K M 0 n - gs K M 0 k, gs K M 1 n - gs K M 1 k, gs K M 2 n - gs K M 2 k⟩
theorem gs_mono {K M : Nat → Int} {c : Int} {n : Nat} (h : ∀ j, j < n → 0 ≤ M j) : ∀ k, k ≤ n → 0 ≤ gs K M c k ∧ (∀ m, k + m ≤ n → gs K M c k ≤ gs K M c (k + m)) := by
  have step : ∀ k, k < n → gs K M c k ≤ gs K M c (k + 1) := fun k hk => by
    have := h k hk
    show gs K M c k ≤ gs K M c k + if K k = c then M k else 0
    split <;> omega
  have mono : ∀ k m, k + m ≤ n → gs K M c k ≤ gs K M c (k + m) := by
    intro k m
    induction m with
    | zero => intro _; exact Int.le_refl _
    | succ m ih => intro hm; exact Int.le_trans (ih (by omega)) (step (k + m) (by omega))
  intro k hk
  refine ⟨?_, mono k⟩
  have := mono 0 k (by omega)
  rw [Nat.zero_add] at this
  exact this
theorem step_fwd {t : Tm} {K M : Nat → Int} {k : Nat} (h0 : 0 ≤ K k) (h2 : K k ≤ 2) (h : err t (at_ K M k) (K k) (M k) = 0) :
    nxt t (at_ K M k) (K k) (M k) = at_ K M (k + 1) ∧ 0 ≤ M k ∧ M k ≤ 1000000000000 := by
  unfold err at h
  unfold nxt
  rcases (show K k = 0 ∨ K k = 1 ∨ K k = 2 by omega) with e | e | e
  · rw [if_pos e] at h ⊢
    rw [if_pos h]
    have hr := room_ok (sErr_ok h).1
    refine ⟨?_, hr.1, hr.2.1⟩
    unfold at_; simp [gs_succ, e]
  · rw [if_neg (by omega), if_pos e] at h ⊢
    rw [if_pos h]
    have hr := room_ok h
    refine ⟨?_, hr.1, hr.2.1⟩
    unfold at_; simp [gs_succ, e]
  · rw [if_neg (by omega), if_neg (by omega), if_pos e] at h ⊢
    rw [if_pos h]
    have hr := room_ok h
    refine ⟨?_, hr.1, hr.2.1⟩
    unfold at_; simp [gs_succ, e]
theorem step_bwd {t : Tm} {K M : Nat → Int} {n k : Nat} (hc : t.credit = 0) (hk : k < n) (h0 : 0 ≤ K k) (h2 : K k ≤ 2) (hM : ∀ j, j < n → 0 ≤ M j ∧ M j ≤ 1000000000000) (hx : okS (at_ K M n)) :
    err t (back K M n (k + 1)) (K k) (M k) = 0 ∧ nxt t (back K M n (k + 1)) (K k) (M k) = back K M n k := by
  have hm := hM k hk
  have g0 := gs_mono (K := K) (c := 0) (fun j hj => (hM j hj).1) k (by omega)
  have g1 := gs_mono (K := K) (c := 1) (fun j hj => (hM j hj).1) k (by omega)
  have g2 := gs_mono (K := K) (c := 2) (fun j hj => (hM j hj).1) k (by omega)
  unfold okS amt at_ at hx
  simp only at hx
  unfold err nxt
  rcases (show K k = 0 ∨ K k = 1 ∨ K k = 2 by omega) with e | e | e
  · have e0 : gs K M 0 (k + 1) = gs K M 0 k + M k := by rw [gs, if_pos e]
    have e1 : gs K M 1 (k + 1) = gs K M 1 k := by rw [gs, if_neg (by omega)]; omega
    have e2 : gs K M 2 (k + 1) = gs K M 2 k := by rw [gs, if_neg (by omega)]; omega
    have hs : sErr t (back K M n (k + 1)) (M k) = 0 := sErr_yes (room_yes hm.1 hm.2 (by unfold back; simp only; omega)) (.inl hc)
    rw [if_pos e, if_pos e, if_pos hs]
    refine ⟨hs, ?_⟩
    unfold back; simp only [e0, e1, e2]; congr 1; omega
  · have e0 : gs K M 0 (k + 1) = gs K M 0 k := by rw [gs, if_neg (by omega)]; omega
    have e1 : gs K M 1 (k + 1) = gs K M 1 k + M k := by rw [gs, if_pos e]
    have e2 : gs K M 2 (k + 1) = gs K M 2 k := by rw [gs, if_neg (by omega)]; omega
    have hs : room (back K M n (k + 1)).r (M k) = 0 := room_yes hm.1 hm.2 (by unfold back; simp only; omega)
    rw [if_neg (by omega), if_pos e, if_neg (by omega), if_pos e, if_pos hs]
    refine ⟨hs, ?_⟩
    unfold back; simp only [e0, e1, e2]; congr 1; omega
  · have e0 : gs K M 0 (k + 1) = gs K M 0 k := by rw [gs, if_neg (by omega)]; omega
    have e1 : gs K M 1 (k + 1) = gs K M 1 k := by rw [gs, if_neg (by omega)]; omega
    have e2 : gs K M 2 (k + 1) = gs K M 2 k + M k := by rw [gs, if_pos e]
    have hs : room (back K M n (k + 1)).c (M k) = 0 := room_yes hm.1 hm.2 (by unfold back; simp only; omega)
    rw [if_neg (by omega), if_neg (by omega), if_pos e, if_neg (by omega), if_neg (by omega), if_pos e, if_pos hs]
    refine ⟨hs, ?_⟩
    unfold back; simp only [e0, e1, e2]; congr 1; omega
theorem back_start (K M : Nat → Int) (n : Nat) : back K M n n = zero := by unfold back zero; simp
theorem back_end (K M : Nat → Int) (n : Nat) : back K M n 0 = at_ K M n := by unfold back at_; simp [gs]
end Rt

/-- Two accounts in one law. -/
structure Duo (W w : World) (g1 g2 : Nat) (t : Rt.Tm) (x1 x2 : Rt.St) : Prop where
  sit : Sit W w g1 t x1
  obj : Obj w g2 t x2
  okx : Rt.okS x2
  lt : g1 < g2
theorem Duo.keep {W w w1 : World} {g1 g2 : Nat} {t : Rt.Tm} {x1 x2 : Rt.St} (h : Duo W w g1 g2 t x1 x2) (hb : Below w.heap.size w w1) : Duo W w1 g1 g2 t x1 x2 :=
  ⟨h.sit.keep hb, h.obj.keep hb, h.okx, h.lt⟩
theorem Duo.alloc {W w : World} {g1 g2 : Nat} {t : Rt.Tm} {x1 x2 : Rt.St} (h : Duo W w g1 g2 t x1 x2) (o : Go.Obj) : Duo W (w.alloc o) g1 g2 t x1 x2 := h.keep ((Below.refl _ _).alloc (Nat.le_refl _) o)
theorem Duo.told1 {W w w1 : World} {g1 g2 : Nat} {t : Rt.Tm} {x1 x2 x' : Rt.St} (h : Duo W w g1 g2 t x1 x2) (hx : Rt.okS x') (ho : Obj w1 g1 t x') (hb : w.grownBy w1 (some g1)) : Duo W w1 g1 g2 t x' x2 :=
  ⟨h.sit.told hx ho hb, h.obj.grown hb (by have := h.lt; simp; omega), h.okx, h.lt⟩
theorem Duo.told2 {W w w1 : World} {g1 g2 : Nat} {t : Rt.Tm} {x1 x2 x' : Rt.St} (h : Duo W w g1 g2 t x1 x2) (hx : Rt.okS x') (ho : Obj w1 g2 t x') (hb : w.grownBy w1 (some g2)) : Duo W w1 g1 g2 t x1 x' :=
  ⟨⟨h.sit.obj.grown hb (by have := h.lt; simp; omega), h.sit.okx, h.sit.box.grown hb (by have := h.lt; have := h.sit.hg; simp; omega), below_only h.sit.below hb (by have := h.lt; have := h.sit.hg; omega) h.sit.below.size, h.sit.hg⟩, ho, hx, h.lt⟩
theorem new_duo {W w : World} {g1 : Nat} {t : Rt.Tm} {x1 : Rt.St} (ht : Rt.okT t) (h : Sit W w g1 t x1) :
    Calls Try.prog 24 #[.agg #[.int .i64 t.sale, .int .i64 t.cash, .int .i64 t.bonus, .int .i64 t.above, .int .i64 t.credit]] w fun e w' => ∃ g2, e = .returned (.tuple #[.pointer (some ⟨g2, 0, none⟩), .int .i64 0]) ∧ Duo W w' g1 g2 t x1 Rt.zero := by
  refine (new_ok (t := t) ht).mono ?_
  rintro e w1 ⟨g2, rfl, hg, ho, hb⟩
  exact ⟨g2, rfl, h.keep hb, ho, Rt.okS_zero, Nat.lt_of_lt_of_le h.obj.lt hg⟩

set_option maxHeartbeats 4000000 in
set_option maxRecDepth 100000 in
theorem retailerOrders_walk (W : World) {t' : Rt.Tm} (_ : t' = t') {A : Option Addr} {n c : Nat} {K M : Nat → Int} (hn : n ≤ c) (hc : c ≤ maxLen) (h : Cells W A (n * 2) (Two K M)) (hw : ∀ i, i < n → (Lit.int .i64 (K i)).wf = true ∧ (Lit.int .i64 (M i)).wf = true) :
    Calls Try.prog 11 #[.agg (termsC t'), .slice A n c] W fun e w' => e = .returned (.bool true) ∧ Below W.heap.size W w' := by
  unfold maxLen at hc
  clear hw
  unfold termsC
  obtain ⟨t, ht'⟩ : ∃ t : Rt.Tm, t = ⟨t'.sale, t'.cash, t'.bonus, t'.above, 0⟩ := ⟨_, rfl⟩
  have e0 : t'.sale = t.sale := by rw [ht']
  have e1 : t'.cash = t.cash := by rw [ht']
  have e2 : t'.bonus = t.bonus := by rw [ht']
  have e3 : t'.above = t.above := by rw [ht']
  have e4 : t.credit = 0 := by rw [ht']
  rw [e0, e1, e2, e3]
  obtain ⟨cr, hcr⟩ : ∃ cr, cr = t'.credit := ⟨_, rfl⟩
  rw [← hcr]
  have HC := Lib.hid e4
  clear ht' e0 e1 e2 e3 e4 hcr
  by_cases ht : Rt.okT t
  · have HT := Lib.hid ht
    clear ht
    by_cases h80 : 80 < n
    · go_enter Try.func11, Try.ntmps11
      go_wp2_with fail
      rw [← HC.out]
      refine (new_sit HT.out).mono ?_
      rintro e w1 ⟨g, rfl, hs⟩
      obtain ⟨q0, q1, q2, q3, q4⟩ := hs.cells
      have HS := Lib.hid hs
      clear hs
      go_wp2_with fail
      refine (new_duo HT.out HS.out).mono ?_
      rintro e w2 ⟨g2, rfl, hs⟩
      have HS2 := Lib.hid hs
      clear hs HS q0 q1 q2 q3 q4
      go_wp2_with fail
      refine (awake49 _).mono ?_
      rintro e w3 ⟨rfl, hb2⟩
      have HB := Lib.hid (Below.on HS2.out.sit.below hb2)
      clear hb2
      go_wp2
      go_ret
      exact ⟨rfl, HB.out⟩
    · go_enter Try.func11, Try.ntmps11
      go_wp2_with fail
      rw [← HC.out]
      refine (new_sit HT.out).mono ?_
      rintro e w1 ⟨g, rfl, hs⟩
      obtain ⟨q0, q1, q2, q3, q4⟩ := hs.cells
      have HS := Lib.hid hs
      clear hs
      go_wp2_with fail
      refine (new_duo HT.out HS.out).mono ?_
      rintro e w2 ⟨g2, rfl, hs⟩
      have HS2 := Lib.hid hs
      clear hs HS q0 q1 q2 q3 q4
      go_wp2_with fail
      go_loop [9] (fun i => ∃ k : Nat, k ≤ n ∧ i = .int .i64 k ∧ ∀ j, j < k → 0 ≤ K j ∧ K j ≤ 2) (fun i => n - (intOf i).toNat)
      case atStart => exact ⟨0, Nat.zero_le _, rfl, fun j hj => absurd hj (by omega)⟩
      case round =>
        obtain ⟨k, hk, rfl, hall⟩ := hrel
        have HA := Lib.hid hall
        clear hall
        by_cases hkn : k < n
        · obtain ⟨b, off, rfl, hlt, hc1, hc2⟩ := (h.below HS2.out.sit.below).two hkn
          by_cases hkk : 0 ≤ K k ∧ K k ≤ 2
          · obtain ⟨k0, k2⟩ := hkk
            go_wp2
            go_round
            case rel =>
              refine ⟨k + 1, by omega, by go_num, fun j hj => ?_⟩
              rcases Nat.lt_or_ge j k with hjk | hjk
              · exact HA.out j hjk
              · rw [show j = k by omega]; exact ⟨k0, k2⟩
            case measure => simp [intOf] <;> omega
          · by_cases k0 : K k < 0
            · clear hkk
              go_wp2_with fail
              refine (awake49 _).mono ?_
              rintro e w3 ⟨rfl, hb2⟩
              have HB := Lib.hid (Below.on HS2.out.sit.below hb2)
              clear hb2
              go_wp2
              go_ret
              exact ⟨rfl, HB.out⟩
            · have k1 : 2 < K k := by omega
              have k2 : 0 ≤ K k := by omega
              clear hkk k0
              go_wp2_with fail
              refine (awake49 _).mono ?_
              rintro e w3 ⟨rfl, hb2⟩
              have HB := Lib.hid (Below.on HS2.out.sit.below hb2)
              clear hb2
              go_wp2
              go_ret
              exact ⟨rfl, HB.out⟩
        · obtain rfl : k = n := by omega
          go_wp2_with fail
          go_loopw [10] (fun i wr => ∃ j : Nat, j ≤ k ∧ i = .int .i64 j ∧ Duo W wr g g2 t (Rt.at_ K M j) Rt.zero ∧ ∀ m, m < j → 0 ≤ M m ∧ M m ≤ 1000000000000) (fun i _ => k - (intOf i).toNat)
          case atStart => exact ⟨0, Nat.zero_le _, rfl, HS2.out, fun j hj => absurd hj (by omega)⟩
          case round =>
            clear HS2
            obtain ⟨j, hj, rfl, hs, hM⟩ := hrel
            have HS := Lib.hid hs
            have HM := Lib.hid hM
            clear hs hM
            by_cases hjk : j < k
            · obtain ⟨b, off, rfl, hlt, hc1, hc2⟩ := (h.below HS.out.sit.below).two hjk
              obtain ⟨k0, k2⟩ := HA.out j hjk
              obtain ⟨o0, o1, o2, o3, o4, hout⟩ := out_letters t (Rt.at_ K M j) (K j)
              have HO := Lib.hid hout
              clear hout
              by_cases hy : Rt.err t (Rt.at_ K M j) (K j) (M j) = 0
              · obtain ⟨hn1, m0, m1⟩ := Rt.step_fwd k0 k2 hy
                have hok := Rt.okS_nxt (t := t) (k := K j) (a := M j) HS.out.sit.okx
                rw [hn1] at hok
                have HOK := Lib.hid hok
                have HN := Lib.hid hn1
                have HY := Lib.hid hy
                clear hok hn1 hy
                go_wp2_with fail
                refine (act_at HS.out.sit.obj HT.out HS.out.sit.okx HN.out HY.out HO.out).mono ?_
                rintro e w3 ⟨rfl, ho3, hb3⟩
                replace HS := Lib.hid (HS.out.told1 HOK.out ho3 hb3)
                clear ho3 hb3
                go_wp2
                go_roundw
                case rel =>
                  refine ⟨j + 1, by omega, by go_num, HS.out.alloc _, fun m hm => ?_⟩
                  rcases Nat.lt_or_ge m j with h1 | h1
                  · exact HM.out m h1
                  · rw [show m = j by omega]; exact ⟨m0, m1⟩
                case measure => simp [intOf] <;> omega
              · obtain ⟨hn1, hkk⟩ := Rt.err_bad hy
                obtain ⟨y, hyy⟩ : ∃ y, Rt.err t (Rt.at_ K M j) (K j) (M j) = y := ⟨_, rfl⟩
                rw [hyy] at hy
                have HN := Lib.hid hn1
                have HY := Lib.hid hyy
                clear hn1 hkk hyy
                go_wp2_with fail
                refine (act_at HS.out.sit.obj HT.out HS.out.sit.okx HN.out HY.out HO.out).mono ?_
                rintro e w3 ⟨rfl, ho3, hb3⟩
                replace HS := Lib.hid ((HS.out.told1 HS.out.sit.okx ho3 hb3).alloc (.cells #[.int .i64 o0, .int .i64 o1, .int .i64 o2, .int .i64 o3, .int .i64 o4] 44))
                clear ho3 hb3
                go_wp2_with fail
                refine (awake49 _).mono ?_
                rintro e w9 ⟨rfl, hb9⟩
                have HB := Lib.hid (Below.on HS.out.sit.below hb9)
                clear hb9
                go_wp2
                go_ret
                exact ⟨rfl, HB.out⟩
            · obtain rfl : j = k := by omega
              go_wp2_with fail
              go_loopw [13] (fun i wr => ∃ (m : Nat) (z : Int), m ≤ j ∧ z = (m : Int) - 1 ∧ i = .int .i64 z ∧ Duo W wr g g2 t (Rt.at_ K M j) (Rt.back K M j m)) (fun i _ => (intOf i + 1).toNat)
              case atStart => exact ⟨j, _, by omega, rfl, rfl, by rw [Rt.back_start]; exact HS.out⟩
              case round =>
                have HOKN := Lib.hid HS.out.sit.okx
                clear HS
                obtain ⟨m, z, hm, hz, rfl, hs⟩ := hrel
                have HS := Lib.hid hs
                clear hs
                by_cases hm0 : m = 0
                · subst hm0
                  obtain rfl : z = -1 := by omega
                  rw [Rt.back_end] at HS
                  clear hz
                  obtain ⟨cc, d, hset⟩ := set_letters t (Rt.at_ K M j)
                  have HV := Lib.hid hset
                  clear hset
                  go_wp2_with fail
                  refine (open_at HS.out.sit.obj HT.out HOKN.out HV.out).mono ?_
                  rintro e w4 ⟨rfl, hb4⟩
                  replace HS := Lib.hid (HS.out.keep hb4)
                  clear hb4
                  go_wp2_with fail
                  refine (open_at HS.out.obj HT.out HOKN.out HV.out).mono ?_
                  rintro e w5 ⟨rfl, hb5⟩
                  replace HS := Lib.hid (HS.out.keep hb5)
                  clear hb5
                  go_wp2_with fail
                  refine (awake49 _).mono ?_
                  rintro e w9 ⟨rfl, hb9⟩
                  have HB := Lib.hid (Below.on HS.out.sit.below hb9)
                  clear hb9
                  go_wp2
                  go_ret
                  exact ⟨rfl, HB.out⟩
                · obtain ⟨l, rfl⟩ : ∃ l, m = l + 1 := ⟨m - 1, by omega⟩
                  obtain rfl : z = (l : Int) := by omega
                  have hlj : l < j := by omega
                  clear hz hm0
                  obtain ⟨b, off, rfl, hlt, hc1, hc2⟩ := (h.below HS.out.sit.below).two hlj
                  obtain ⟨k0, k2⟩ := HA.out l hlj
                  obtain ⟨hy, hn1⟩ := Rt.step_bwd HC.out hlj k0 k2 HM.out HOKN.out
                  obtain ⟨o0, o1, o2, o3, o4, hout⟩ := out_letters t (Rt.back K M j (l + 1)) (K l)
                  have hok := Rt.okS_nxt (t := t) (k := K l) (a := M l) HS.out.okx
                  rw [hn1] at hok
                  have HOK := Lib.hid hok
                  have HN := Lib.hid hn1
                  have HY := Lib.hid hy
                  have HO := Lib.hid hout
                  clear hok hn1 hy hout
                  go_wp2_with fail
                  refine (act_at HS.out.obj HT.out HS.out.okx HN.out HY.out HO.out).mono ?_
                  rintro e w3 ⟨rfl, ho3, hb3⟩
                  replace HS := Lib.hid (HS.out.told2 HOK.out ho3 hb3)
                  clear ho3 hb3
                  go_wp2
                  go_roundw
                  case rel => exact ⟨l, _, by omega, rfl, rfl, HS.out.alloc _⟩
                  case measure => simp [intOf] <;> omega
  · have HT := Lib.hid ht
    clear ht
    go_enter Try.func11, Try.ntmps11
    go_wp2_with fail
    rw [← HC.out]
    refine (new_bad (t := t) HT.out).mono ?_
    rintro e w1 ⟨rfl, hb1⟩
    have hBx : Blk w1 W.heap.size 36 (termsC t) := (Blk.new W 36 (termsC t)).keep hb1
    have HB1 := Lib.hid (Below.on ((Below.refl _ _).alloc (Nat.le_refl _) _) hb1)
    obtain ⟨q0, q1, q2, q3, q4, _⟩ := set_at hBx
    clear hb1 hBx
    go_wp2_with fail
    refine (new_bad (t := t) HT.out).mono ?_
    rintro e w2 ⟨rfl, hb2⟩
    replace HB1 := Lib.hid (Below.on HB1.out hb2)
    clear hb2
    go_wp2_with fail
    refine (awake49 _).mono ?_
    rintro e w9 ⟨rfl, hb9⟩
    have HB := Lib.hid (Below.on HB1.out hb9)
    clear hb9
    go_wp2
    go_ret
    exact ⟨rfl, HB.out⟩
end Go.Proofs.Ytpalmlcepppifaa
