/- The walk of the law NatForms. -/
import Derived.Test.YthjbkadhgcjnaaaNatUint
import Derived.Test.YthjbkadhgcjnaaaNatCmp
set_option linter.unusedVariables false
namespace Go.Proofs.Ythjbkadhgcjnaaa
open Go.RowKit

/-- What Uint and Cmp answer at whatever limbs. -/
def uok (n : Nat) (f : Nat → Nat) : Bool := vd n f && decide (n ≤ 2)
def uval (n : Nat) (f : Nat → Nat) : Int := if uok n f = true then (v32 f n : Int) else 0
def cval (n : Nat) (f : Nat → Nat) (m : Nat) (g : Nat → Nat) : Int := if vd n f = true ∧ vd m g = true then cmpI (v32 f n) (v32 g m) else 0
theorem cval_neg (n : Nat) (f : Nat → Nat) (m : Nat) (g : Nat → Nat) : cval m g n f = -cval n f m g := by
  unfold cval
  by_cases h : vd n f = true ∧ vd m g = true
  · rw [if_pos h, if_pos ⟨h.2, h.1⟩]
    unfold cmpI
    split <;> split <;> (try split) <;> omega
  · rw [if_neg h, if_neg fun h2 => h ⟨h2.2, h2.1⟩]; rfl
theorem cval_bounds (n : Nat) (f : Nat → Nat) (m : Nat) (g : Nat → Nat) : -1 ≤ cval n f m g ∧ cval n f m g ≤ 1 := by
  unfold cval cmpI
  split
  · split
    · omega
    · split <;> omega
  · omega
theorem uok_cases {n : Nat} {f : Nat → Nat} (h : uok n f = false) : vd n f = false ∨ vd n f = true ∧ 2 < n := by
  unfold uok at h
  cases hv : vd n f with
  | false => exact .inl rfl
  | true => rw [hv] at h; simp at h; exact .inr ⟨rfl, h⟩
theorem num_of {w : World} {D : Option Addr} {n : Nat} {f : Nat → Nat} (hD : Cells w D n (Lm f)) (hf : ∀ j, j < n → f j < 4294967296) (hv : vd n f = true) : n ≤ 64 ∧ n = L32 (v32 f n) ∧ Cells w D n (Lm (d32 (v32 f n))) := by
  obtain ⟨h1, h2, h3⟩ := vd_num hf hv
  exact ⟨h1, h2.symm, hD.congr fun j hj => by unfold Lm; rw [h3 j hj]⟩
theorem uint_is {D : Option Addr} {n c : Nat} {f : Nat → Nat} {u : Int} {k : Bool} {w : World} (hn : n ≤ 9223372036854775807) (hD : Cells w D n (Lm f)) (hf : ∀ j, j < n → f j < 4294967296) (hu : uval n f = u) (hk : uok n f = k) :
    Calls Try.prog 15 #[natv D n c] w fun e w' => e = .returned (.tuple #[.int .u64 u, .bool k]) ∧ Below w.heap.size w w' := by
  subst hu hk
  cases hk : uok n f with
  | false => unfold uval; rw [hk, if_neg Bool.false_ne_true]; exact uint_no hn hD (uok_cases hk)
  | true =>
    have h := hk
    unfold uok at h
    simp only [Bool.and_eq_true, decide_eq_true_eq] at h
    obtain ⟨_, h2, h3⟩ := num_of hD hf h.1
    unfold uval; rw [hk, if_pos rfl]
    exact uint_yes h.2 (by have := fit32_of (N := v32 f n) (n := 2) (by omega); exact this) h2 h3
theorem refUint_is {D : Option Addr} {n c : Nat} {f : Nat → Nat} {u : Int} {k : Bool} {w : World} (hn : n ≤ 9223372036854775807) (hD : Cells w D n (Lm f)) (hf : ∀ j, j < n → f j < 4294967296) (hu : uval n f = u) (hk : uok n f = k) :
    Calls Try.prog 16 #[natv D n c] w fun e w' => e = .returned (.tuple #[.int .u64 u, .bool k]) ∧ Below w.heap.size w w' := by
  subst hu hk
  cases hk : uok n f with
  | false => unfold uval; rw [hk, if_neg Bool.false_ne_true]; exact refUint_no hn hD (uok_cases hk)
  | true =>
    have h := hk
    unfold uok at h
    simp only [Bool.and_eq_true, decide_eq_true_eq] at h
    obtain ⟨_, h2, h3⟩ := num_of hD hf h.1
    unfold uval; rw [hk, if_pos rfl]
    exact refUint_yes h.2 (by have := fit32_of (N := v32 f n) (n := 2) (by omega); exact this) h2 h3
theorem ncmp_is {D E : Option Addr} {n m c c' : Nat} {f g : Nat → Nat} {k : Int} {w : World} (hn : n ≤ 9223372036854775807) (hm : m ≤ 9223372036854775807) (hD : Cells w D n (Lm f)) (hE : Cells w E m (Lm g)) (hf : ∀ j, j < n → f j < 4294967296) (hg : ∀ j, j < m → g j < 4294967296) (hk : cval n f m g = k) :
    Calls Try.prog 21 #[natv D n c, natv E m c'] w fun e w' => e = .returned (.int .i64 k) ∧ Below w.heap.size w w' := by
  subst hk
  unfold cval
  by_cases h : vd n f = true ∧ vd m g = true
  · obtain ⟨a1, a2, a3⟩ := num_of hD hf h.1
    obtain ⟨b1, b2, b3⟩ := num_of hE hg h.2
    rw [if_pos h]
    exact ncmp_any a1 b1 a2 b2 a3 b3
  · rw [if_neg h]
    exact ncmp_bad hn hm hD hE (by
      cases h1 : vd n f with
      | false => exact .inl rfl
      | true => exact .inr ⟨rfl, by cases h2 : vd m g with | false => rfl | true => exact absurd ⟨h1, h2⟩ h⟩)
theorem rCmp_is {D E : Option Addr} {n m c c' : Nat} {f g : Nat → Nat} {k : Int} {w : World} (hn : n ≤ 9223372036854775807) (hm : m ≤ 9223372036854775807) (hD : Cells w D n (Lm f)) (hE : Cells w E m (Lm g)) (hf : ∀ j, j < n → f j < 4294967296) (hg : ∀ j, j < m → g j < 4294967296) (hk : cval n f m g = k) :
    Calls Try.prog 22 #[natv D n c, natv E m c'] w fun e w' => e = .returned (.int .i64 k) ∧ Below w.heap.size w w' := by
  subst hk
  unfold cval
  by_cases h : vd n f = true ∧ vd m g = true
  · obtain ⟨a1, a2, a3⟩ := num_of hD hf h.1
    obtain ⟨b1, b2, b3⟩ := num_of hE hg h.2
    rw [if_pos h]
    exact rCmp_any a1 b1 a2 b2 a3 b3
  · rw [if_neg h]
    exact rCmp_bad hn hm hD hE (by
      cases h1 : vd n f with
      | false => exact .inl rfl
      | true => exact .inr ⟨rfl, by cases h2 : vd m g with | false => rfl | true => exact absurd ⟨h1, h2⟩ h⟩)

set_option maxHeartbeats 4000000 in
set_option maxRecDepth 100000 in
theorem natForms_walk (W : World) (N0 : Int) (wN : (Lit.int .u64 N0).wf = true) {D E : Option Addr} {n c m c' : Nat} {f g : Nat → Nat} (hnc : n ≤ c) (hc : c ≤ maxLen) (hD : Cells W D n (Lm f)) (hf : ∀ j, j < n → f j < 4294967296) (hmc : m ≤ c') (hc' : c' ≤ maxLen) (hE : Cells W E m (Lm g)) (hg : ∀ j, j < m → g j < 4294967296) :
    Calls Try.prog 4 #[.int .u64 N0, natv D n c, natv E m c'] W fun e w' => e = .returned (.bool true) ∧ Below W.heap.size W w' := by
  have hn9 : n ≤ 9223372036854775807 := by unfold maxLen at hc; omega
  have hm9 : m ≤ 9223372036854775807 := by unfold maxLen at hc'; omega
  have hNr : 0 ≤ N0 ∧ N0 ≤ 18446744073709551615 := by
    have h := wN
    simp [Lit.wf] at h
    exact h
  obtain ⟨N, rfl⟩ : ∃ N : Nat, N0 = (N : Int) := ⟨N0.toNat, by omega⟩
  have hN : N < 18446744073709551616 := by omega
  have hl2 := fit32_le (fit_two hN)
  clear hNr wN hnc hc hmc hc'
  obtain ⟨u, hu⟩ : ∃ u, uval n f = u := ⟨_, rfl⟩
  obtain ⟨k, hk⟩ : ∃ k, uok n f = k := ⟨_, rfl⟩
  obtain ⟨z, hz⟩ : ∃ z, cval n f m g = z := ⟨_, rfl⟩
  obtain ⟨v, hv⟩ : ∃ v, vd n f = v := ⟨_, rfl⟩
  have hzn := cval_neg n f m g
  rw [hz] at hzn
  obtain ⟨z0, z1⟩ := cval_bounds n f m g
  rw [hz] at z0 z1
  have HU := Lib.hid hu
  have HK := Lib.hid hk
  have HZ := Lib.hid hz
  have HZN := Lib.hid hzn
  have HV := Lib.hid hv
  have HF := Lib.hid hf
  have HG := Lib.hid hg
  clear hu hk hz hzn hv hf hg
  unfold natv
  have BT0 := Bt.new W (.slice D n c) (.slice E m c')
  have HB0 := Lib.hid BT0
  clear BT0
  have CAB := Lib.hid (show ∀ w', Bt W w' (.slice D n c) (.slice E m c') → Calls Try.prog 21 #[.agg #[.slice D n c], .agg #[.slice E m c']] w' (fun e w'' => e = .returned (.int .i64 z) ∧ Below w'.heap.size w' w'') from
    fun w' h => ncmp_is hn9 hm9 (hD.below h.below) (hE.below h.below) HF.out HG.out HZ.out)
  have CBA := Lib.hid (show ∀ w', Bt W w' (.slice D n c) (.slice E m c') → Calls Try.prog 21 #[.agg #[.slice E m c'], .agg #[.slice D n c]] w' (fun e w'' => e = .returned (.int .i64 (-z)) ∧ Below w'.heap.size w' w'') from
    fun w' h => ncmp_is hm9 hn9 (hE.below h.below) (hD.below h.below) HG.out HF.out HZN.out)
  go_enter Try.func4, Try.ntmps4
  go_wp2_with fail
  refine (uint_is hn9 (hD.below HB0.out.below) HF.out HU.out HK.out).mono ?_
  rintro e w1 ⟨rfl, hb1⟩
  have HB1 := Lib.hid (HB0.out.on hb1)
  obtain ⟨q0, q1, hlt⟩ := HB1.out.facts
  clear hb1
  go_wp2_with fail
  refine (refUint_is hn9 (hD.below HB1.out.below) HF.out HU.out HK.out).mono ?_
  rintro e w2 ⟨rfl, hb1⟩
  have HB2 := Lib.hid (HB1.out.on hb1)
  clear hb1 q0 q1 hlt
  obtain ⟨q0, q1, hlt⟩ := HB2.out.facts
  go_wp2_with fail
  refine (of_any N hN _).mono ?_
  rintro e w3 ⟨D3, c3, rfl, hl3, hc3, hb1⟩
  have HB3 := Lib.hid (HB2.out.on hb1)
  clear hb1 q0 q1 hlt
  obtain ⟨q0, q1, hlt⟩ := HB3.out.facts
  go_wp2_with fail
  refine (uint_yes (N := N) hl2 hN rfl hc3).mono ?_
  rintro e w4 ⟨rfl, hb1⟩
  have BT4 := HB3.out.on hb1
  clear hb1 q0 q1 hlt hc3 hl3
  obtain ⟨q0, q1, hlt⟩ := BT4.facts
  go_wp2_with fail
  have BTd := BT4.on (bl_drew (Below.refl _ _))
  have hneg : IntKind.i64.wrap (-z) = -z := IntWalk.i64_in _ (by omega)
  go_region_held3 (fun w' => w'.cell? ⟨W.heap.size, 0, none⟩ = some (.slice D n c) ∧ w'.cell? ⟨W.heap.size + 1, 0, none⟩ = some (.slice E m c') ∧ Bt W w' (.slice D n c) (.slice E m c'))
    (first
      | exact Bt.keep (by assumption))
    (first
      | (go_at_call 17; refine (of_any N hN _).mono ?_; rintro e w5 ⟨D5, c5, rfl, hl5, hc5, hb5⟩; have B5 := Bt.on (S := .slice D n c) (T := .slice E m c') (by assumption) hb5)
      | (go_at_call 18; refine (refOf_any N hN _).mono ?_; rintro e w6 ⟨D6, c6, rfl, hl6, hc6, hb6⟩; have B6 := B5.on hb6; have hc56 := hc5.below hb6)
      | (go_at_call 13; refine (same_yes (n := L32 N) (f := d32 N) (by omega) hc56 hc6).mono ?_; rintro e w7 ⟨rfl, hb7⟩; have B7 := B6.on hb7)
      | (go_at_call 19; refine (nvalid_is hn9 (hD.below B7.below) HV.out).mono ?_; rintro e w8 ⟨rfl, hb8⟩; have B8 := B7.on hb8)
      | (go_at_call 20; refine (rvalid_is hn9 (hD.below B8.below) HV.out).mono ?_; rintro e w9 ⟨rfl, hb9⟩; have B9 := B8.on hb9)
      | (go_at_call 21; (with_reducible refine (CAB.out _ ?_).mono ?_); (assumption); rintro e wa ⟨rfl, hba⟩; have Ba := Bt.on (S := .slice D n c) (T := .slice E m c') (by assumption) hba)
      | (go_at_call 21; (with_reducible refine (CBA.out _ ?_).mono ?_); (assumption); rintro e wb ⟨rfl, hbb⟩; have Bb := Bt.on (S := .slice D n c) (T := .slice E m c') (by assumption) hbb)
      | (go_at_call 22; refine (rCmp_is hn9 hm9 (hD.below (Bt.below (S := .slice D n c) (T := .slice E m c') (by assumption))) (hE.below (Bt.below (S := .slice D n c) (T := .slice E m c') (by assumption))) HF.out HG.out HZ.out).mono ?_; rintro e wr ⟨rfl, hbr⟩; have Br := Bt.on (S := .slice D n c) (T := .slice E m c') (by assumption) hbr)
      | (go_at_call 23; refine (formed_any _).mono ?_; rintro e wf ⟨rfl, hbf⟩; have Bf := Bt.on (S := .slice D n c) (T := .slice E m c') (by assumption) hbf))
  all_goals
    have hb := Bf.below
    go_wp2
    go_ret
    exact ⟨rfl, hb⟩
end Go.Proofs.Ythjbkadhgcjnaaa
