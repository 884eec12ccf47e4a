/- The law FairnessRuns. -/
import Derived.Test.YtiflmnmkmpjecaaFaAwake
import Derived.Test.YtiflmnmkmpjecaaFaRRuns
import Derived.Test.YtiflmnmkmpjecaaRows
set_option linter.unusedVariables false
namespace Go.Proofs.Ytiflmnmkmpjecaa
open Go.RowKit
namespace Fa
open Fr
theorem nsum_ext {f g : Nat → Nat} : ∀ {n}, (∀ i, i < n → f i = g i) → nsum f n = nsum g n
  | 0, _ => rfl
  | n + 1, h => by rw [nsum, nsum, nsum_ext fun i hi => h i (by omega), h n (by omega)]
theorem nsum_head (g : Nat → Nat) : ∀ n, nsum g (n + 1) = g 0 + nsum (fun i => g (i + 1)) n
  | 0 => by simp [nsum]
  | n + 1 => by
    rw [nsum, nsum_head g n, nsum]
    omega
theorem nsum_rev : ∀ (g : Nat → Nat) (n : Nat), nsum (fun i => g (n - 1 - i)) n = nsum g n
  | _, 0 => rfl
  | g, n + 1 => by
    rw [nsum_head g n, ← nsum_rev (fun i => g (i + 1)) n, nsum]
    have : n + 1 - 1 - n = 0 := by omega
    rw [this, Nat.add_comm]
    congr 1
    exact nsum_ext fun i hi => by congr 1; omega
/-- A change between two neighbours. -/
def dgb (f : Nat → Bool) (i : Nat) : Nat := if f (i + 1) ≠ f i then 1 else 0
theorem rn_sum (f : Nat → Bool) : ∀ n, rn f (n + 1) = 1 + nsum (dgb f) n
  | 0 => by rw [rn, rn, if_pos (.inl rfl), nsum]
  | n + 1 => by
    rw [rn, rn_sum f n, nsum]
    have e : (if n + 1 = 0 ∨ f (n + 1) ≠ f (n + 1 - 1) then 1 else 0) = dgb f n := by
      unfold dgb
      by_cases h : f (n + 1) ≠ f n
      · rw [if_pos h, if_pos (.inr h)]
      · rw [if_neg h, if_neg (fun h2 => h2.elim (by omega) h)]
    rw [e, Nat.add_assoc]
theorem rn_rev (f : Nat → Bool) (n : Nat) : rn (fun j => f (n - 1 - j)) n = rn f n := by
  match n with
  | 0 => rfl
  | n + 1 =>
    rw [rn_sum, rn_sum, ← nsum_rev (dgb f) n]
    congr 1
    refine nsum_ext fun i hi => ?_
    show (if f (n + 1 - 1 - (i + 1)) ≠ f (n + 1 - 1 - i) then 1 else 0) = (if f (n - 1 - i + 1) ≠ f (n - 1 - i) then 1 else 0)
    rw [show n + 1 - 1 - (i + 1) = n - 1 - i by omega, show n + 1 - 1 - i = n - 1 - i + 1 by omega]
    by_cases h : f (n - 1 - i + 1) = f (n - 1 - i)
    · rw [if_neg (by simp [h]), if_neg (by simp [h])]
    · rw [if_pos (fun e => h e.symm), if_pos h]
/-- A fraction by numbers, with the error beside it. -/
def Gw (w' : World) (e : Ending) (a b : Nat) (y : Int) : Prop :=
  ∃ (D : Option Addr) (l c : Nat) (E : Option Addr) (m c' : Nat), e = .returned (.tuple #[.agg #[.slice D l c, .slice E m c'], .int .i64 y]) ∧ l ≤ 1000 ∧ m ≤ 1000 ∧ l = L32 a ∧ m = L32 b ∧ Cells w' D l (Lm (d32 a)) ∧ Cells w' E m (Lm (d32 b))
def Says (W : World) (f : FuncId) (args : Array Value) (a b : Nat) (y : Int) : Prop :=
  ∀ w', Below W.heap.size W w' → Calls Try.prog f args w' fun e w'' => Gw w'' e a b y ∧ Below w'.heap.size w' w''
theorem Gw.res {B : Nat} {w' : World} {e : Ending} {a b : Nat} (h : Res B w' e a b) (ha : L32 a ≤ 64) (hb : L32 b ≤ 64) : Gw w' e a b 0 := by
  obtain ⟨D, c, E, c', rfl, _, _, h1, h2, _, _⟩ := h
  exact ⟨D, _, c, E, _, c', rfl, by omega, by omega, rfl, rfl, h1, h2⟩
theorem Gw.err {w' : World} {e : Ending} {y : Nat} (h : Err e y) : Gw w' e 0 0 (y : Int) := by
  unfold Err at h
  have h0 : L32 0 = 0 := L32_zero.2 rfl
  exact ⟨none, 0, 0, none, 0, 0, h, by omega, by omega, h0.symm, h0.symm, Cells.nil, Cells.nil⟩
theorem same_eq {D0 D1 D2 D3 : Option Addr} {n0 n1 n2 n3 c0 c1 c2 c3 x0 x1 : Nat} {w : World} (hn0 : n0 ≤ 1000) (hn1 : n1 ≤ 1000) (hn2 : n2 ≤ 1000) (hn3 : n3 ≤ 1000) (h0 : n0 = L32 x0) (h1 : n1 = L32 x1) (h2 : n2 = L32 x0) (h3 : n3 = L32 x1)
    (hx0 : Cells w D0 n0 (Lm (d32 x0))) (hx1 : Cells w D1 n1 (Lm (d32 x1))) (hx2 : Cells w D2 n2 (Lm (d32 x0))) (hx3 : Cells w D3 n3 (Lm (d32 x1))) :
    Calls Try.prog 17 #[fv D0 n0 c0 D1 n1 c1, fv D2 n2 c2 D3 n3 c3] w fun e w' => e = .returned (.bool true) ∧ Below w.heap.size w w' := by
  have := same_any (c0 := c0) (c1 := c1) (c2 := c2) (c3 := c3) hn0 hn1 hn2 hn3 h0 h1 h2 h3 hx0 hx1 hx2 hx3
  simpa using this
theorem runs_says (W : World) (a r : Int) (n : Nat) (ha : a ≤ 9223372036854775807) : ∃ (p q : Nat) (y : Int), Says W 23 #[.int .i64 a, .int .i64 (n : Int), .int .i64 r] p q y ∧ Says W 24 #[.int .i64 a, .int .i64 (n : Int), .int .i64 r] p q y := by
  by_cases h : a < 0 ∨ 0 ≤ a ∧ 80 < a ∨ 0 ≤ a ∧ a ≤ 80 ∧ (n : Int) < 0 ∨ 0 ≤ a ∧ a ≤ 80 ∧ 0 ≤ (n : Int) ∧ 80 - a < (n : Int)
  · exact ⟨0, 0, 2, fun w' hw => (runs_bad w' ha h).mono fun e w'' ⟨h1, h2⟩ => ⟨Gw.err h1, h2⟩, fun w' hw => (rruns_bad w' ha h).mono fun e w'' ⟨h1, h2⟩ => ⟨Gw.err h1, h2⟩⟩
  · obtain ⟨k, rfl⟩ := Int.eq_ofNat_of_zero_le (show 0 ≤ a by omega)
    have h1 := len_div (g := Nat.gcd (rc k n r) (cb (k + n) k)) (Nat.le_trans (rc_len (a := k) (b := n) (by omega) (by omega) r) (by omega))
    have h2 := len_div (g := Nat.gcd (rc k n r) (cb (k + n) k)) (Nat.le_trans (cb_len (n := k + n) (k := k) (by omega) (by omega)) (by omega))
    exact ⟨_, _, 0, fun w' hw => (runs_any w' r (by omega) (by omega)).mono fun e w'' ⟨k1, k2⟩ => ⟨Gw.res k1 h1 h2, k2⟩, fun w' hw => (rruns_in w' (by omega) (by omega) rfl rfl).mono fun e w'' ⟨k1, k2⟩ => ⟨Gw.res k1 h1 h2, k2⟩⟩
theorem Try.infoBl : (Try.prog.info? 4).map (fun i => (i.zero, i.size, i.bytes)) = some (some (.bool false), 1, 1) := by kernel_rfl
set_option maxHeartbeats 8000000 in
set_option maxRecDepth 100000 in
theorem runs_law {W : World} {D : Option Addr} {n c : Nat} {f : Nat → Bool} {a r : Int} (hn9 : n ≤ 9223372036854775807) (ha : a ≤ 9223372036854775807) (hx : Cells W D n (Bl f)) :
    Calls Try.prog 7 #[.slice D n c, .int .i64 a, .int .i64 r] W fun e w' => e = .returned (.bool true) ∧ Below W.heap.size W w' := by
  obtain ⟨i0, hi, hz0, hz1, hz2⟩ := info_parts Try.infoBl
  by_cases hn : n ≤ 5000
  · obtain ⟨p, q, y, hk, hr⟩ := runs_says W a r n ha
    unfold Says at hk hr
    have HK := Lib.hid hk
    have HR := Lib.hid hr
    have HX := Lib.hid hx
    have g1 : ((5000 : Int) < (n : Int)) = False := eq_false (by omega)
    have hw0 : IntKind.i64.wrap ((n : Int) - 1) = (n : Int) - 1 := IntWalk.i64_in _ (by omega)
    have hyy : (y == y) = true := by simp
    clear hk hr hx ha
    go_enter Try.func7, Try.ntmps7
    go_wp2
    go_loopw [7, 8] (fun v i wr => ∃ k : Nat, k ≤ n ∧ i = .int .i64 ((n : Int) - 1 - (k : Int)) ∧ Hid (wr.ownsRow W.heap.size 4 1 v k (row (k * 1) (Bl fun j => f (n - 1 - j)))) ∧ Hid (Below W.heap.size W wr)) (fun _ i _ => (intOf i + 1).toNat)
    case atStart => exact ⟨0, Nat.zero_le _, by simp, Lib.hid (World.ownsRow_nil _ _ _ _), Below.refl _ _⟩
    case round =>
      obtain ⟨k, hk, rfl, HO, HB⟩ := hrel
      have hszr := HB.out.size
      by_cases hkn : k < n
      · obtain ⟨i, hi2⟩ : ∃ i, i = n - 1 - k := ⟨_, rfl⟩
        have hin : i < n := by omega
        have hie : (n : Int) - 1 - (k : Int) = (i : Int) := by omega
        rw [hie]
        obtain ⟨b1, o1, rfl, hlt1, hc1⟩ := cells_at (HX.out.below HB.out) hin
        unfold Bl at hc1
        have i1 : (0 : Int) ≤ (i : Int) := by omega
        have i2 : (i : Int) < (n : Int) := by omega
        have hw1 : IntKind.i64.wrap ((i : Int) - 1) = (i : Int) - 1 := IntWalk.i64_in _ (by omega)
        obtain ⟨x, hx⟩ : ∃ x, x = f i := ⟨_, rfl⟩
        rw [← hx] at hc1
        have HROW : Hid (row ((k + 1) * 1) (Bl fun j => f (n - 1 - j)) = row (k * 1) (Bl fun j => f (n - 1 - j)) ++ [.bool x]) := Lib.hid (by rw [Nat.mul_one, Nat.mul_one, row_one]; unfold Bl; rw [hx, hi2])
        have HIE := Lib.hid hie
        clear hx hi2 hie
        go_wp2_with (at_builtin; refine wpList_append_own _ rfl _ _ 43 rfl W.heap.size 4 i0 (.bool false) 1 1 Try.underlying43 hi hz0 hz1 hz2 rfl (by decide) _ _ _ rfl (HO.out.alloc _) ⟨wr.heap.size, 0, none⟩ 1 1 [.bool x] rfl rfl ?c1 ?c2 ?c3 ?c4 ?c5 ?_)
        case c1 => exact fun j u hu => new_cell rfl (by simpa using hu)
        case c2 => intro u hu; simp at hu; subst hu; rfl
        case c3 => unfold maxLen; omega
        case c4 => omega
        case c5 => first | omega | (simp; omega)
        intro v' w3 hown' hgrow _
        have HB3 := Lib.hid (own_below (HB.out.alloc hszr _) (HO.out.alloc _) (by simp; omega) hgrow)
        have HO3 : Hid (w3.ownsRow W.heap.size 4 1 v' (k + 1) (row ((k + 1) * 1) (Bl fun j => f (n - 1 - j)))) := Lib.hid (by rw [HROW.out, Nat.mul_one]; exact hown')
        clear hown' hgrow HO HB
        go_wp2
        go_roundw
        case rel => exact ⟨k + 1, by omega, by have := HIE.out; congr 1; omega, HO3, HB3⟩
        case measure => have := HIE.out; simp [intOf] <;> omega
      · obtain rfl : k = n := by omega
        have g2 : (0 ≤ (k : Int) - 1 - (k : Int)) = False := eq_false (by omega)
        obtain ⟨Db, cb', rfl, _⟩ := own_slice HO.out
        have CB := Lib.hid (Cells.of_own HO.out)
        rw [Nat.mul_one] at CB
        have REV := Lib.hid (rn_rev f k)
        obtain ⟨R, hR⟩ : ∃ R, R = rn f k := ⟨_, rfl⟩
        have HRR := Lib.hid hR
        rw [← hR] at REV
        have hRR : ((R : Int) == (R : Int)) = true := by simp
        clear hR hkn hk
        go_wp2_with fail
        refine (runs_num (f := f) (by omega) (HX.out.below HB.out)).mono ?_
        rintro e w1 ⟨rfl, hb⟩
        rw [← HRR.out]
        have HB1 := Lib.hid (Below.on HB.out hb)
        have CB1 := Lib.hid (CB.out.below hb)
        clear hb CB HO HB
        go_wp2_with fail
        (with_reducible refine (HK.out _ HB1.out).mono ?_)
        rintro e w2 ⟨⟨D1, l1, c1, E1, m1, k1, rfl, a1, b1, hl, hm, hc, hd⟩, hb⟩
        have BS1 : Hid (Bs W w1 []) := Lib.hid ⟨HB1.out, fun _ _ _ h => by cases h⟩
        have BQ2 := Lib.hid (BS1.out.on hb)
        have BS2 := Lib.hid (BQ2.out.alloc TF #[.slice D1 l1 c1, .slice E1 m1 k1])
        have X1 := Lib.hid (hc.alloc (.cells #[.slice D1 l1 c1, .slice E1 m1 k1] TF))
        have Y1 := Lib.hid (hd.alloc (.cells #[.slice D1 l1 c1, .slice E1 m1 k1] TF))
        have CB2 := Lib.hid ((CB1.out.below hb).alloc (.cells #[.slice D1 l1 c1, .slice E1 m1 k1] TF))
        have L1 := Lib.hid hl
        have M1 := Lib.hid hm
        clear hb hl hm hc hd CB1 HB1 BS1
        go_wp2_with fail
        (with_reducible refine (HR.out _ BS2.out.below).mono ?_)
        rintro e w3 ⟨⟨D2, l2, c2, E2, m2, k2, rfl, a2, b2, hl, hm, hc, hd⟩, hb⟩
        have BQ3 := Lib.hid (BS2.out.on hb)
        have BS3 := Lib.hid (BQ3.out.alloc TF #[.slice D2 l2 c2, .slice E2 m2 k2])
        have X2 := Lib.hid (hc.alloc (.cells #[.slice D2 l2 c2, .slice E2 m2 k2] TF))
        have Y2 := Lib.hid (hd.alloc (.cells #[.slice D2 l2 c2, .slice E2 m2 k2] TF))
        replace X1 := Lib.hid ((X1.out.below hb).alloc (.cells #[.slice D2 l2 c2, .slice E2 m2 k2] TF))
        replace Y1 := Lib.hid ((Y1.out.below hb).alloc (.cells #[.slice D2 l2 c2, .slice E2 m2 k2] TF))
        have CB3 := Lib.hid ((CB2.out.below hb).alloc (.cells #[.slice D2 l2 c2, .slice E2 m2 k2] TF))
        have L2 := Lib.hid hl
        have M2 := Lib.hid hm
        clear hb hl hm hc hd CB2 BS2 BQ2
        go_wp2_with fail
        refine (rruns_num (f := f) (by omega) (HX.out.below BS3.out.below)).mono ?_
        rintro e w4 ⟨rfl, hb⟩
        rw [← HRR.out]
        have BS4 := Lib.hid (BS3.out.on hb)
        replace X1 := Lib.hid (X1.out.below hb)
        replace Y1 := Lib.hid (Y1.out.below hb)
        replace X2 := Lib.hid (X2.out.below hb)
        replace Y2 := Lib.hid (Y2.out.below hb)
        have CB4 := Lib.hid (CB3.out.below hb)
        clear hb CB3 BS3 BQ3
        go_wp2_with fail
        refine (runs_num (f := fun j => f (k - 1 - j)) (by omega) CB4.out).mono ?_
        rintro e w5 ⟨rfl, hb⟩
        rw [REV.out]
        have BS5 := Lib.hid (BS4.out.on hb)
        replace X1 := Lib.hid (X1.out.below hb)
        replace Y1 := Lib.hid (Y1.out.below hb)
        replace X2 := Lib.hid (X2.out.below hb)
        replace Y2 := Lib.hid (Y2.out.below hb)
        clear hb CB4 BS4
        obtain ⟨_, ta, ka⟩ := BS5.out.get (.tail _ (.head _))
        obtain ⟨_, tb, kb⟩ := BS5.out.get (.head _)
        have q0 : w5.cell? ⟨w2.heap.size, 0, none⟩ = some (.slice D1 l1 c1) := ka.cell 0
        have q1 : w5.cell? ⟨w2.heap.size, 1, none⟩ = some (.slice E1 m1 k1) := ka.cell 1
        have q2 : w5.cell? ⟨w3.heap.size, 0, none⟩ = some (.slice D2 l2 c2) := kb.cell 0
        have q3 : w5.cell? ⟨w3.heap.size, 1, none⟩ = some (.slice E2 m2 k2) := kb.cell 1
        clear ka kb
        go_wp2_with fail
        refine (same_eq a1 b1 a2 b2 L1.out M1.out L2.out M2.out X1.out Y1.out X2.out Y2.out).mono ?_
        rintro e w6 ⟨rfl, hb⟩
        have BS6 := Lib.hid (BS5.out.on hb)
        clear hb q0 q1 q2 q3 ta tb BS5
        go_wp2_with fail
        refine (awake_any _).mono ?_
        rintro e w7 ⟨rfl, hb⟩
        have HB7 := Lib.hid (BS6.out.on hb).below
        clear hb
        go_wp2
        go_ret
        exact ⟨rfl, HB7.out⟩
  · have g1 : ((5000 : Int) < (n : Int)) := by omega
    clear hn hx
    go_enter Try.func7, Try.ntmps7
    go_wp2_with fail
    refine (awake_any _).mono ?_
    rintro e w1 ⟨rfl, hb⟩
    have HB := Lib.hid hb
    clear hb
    go_wp2
    go_ret
    exact ⟨rfl, HB.out⟩
end Fa
theorem fairnessRuns_walk (W : World) {D : Option Addr} {n c : Nat} {f : Nat → Bool} (nc : n ≤ c) (cm : c ≤ maxLen) (h : Cells W D n (Fa.Bl f)) (a : Int) (wa : (Lit.int .i64 a).wf = true) (r : Int) (wr : (Lit.int .i64 r).wf = true) :
    Calls Try.prog 7 #[.slice D n c, .int .i64 a, .int .i64 r] W fun e w' => e = .returned (.bool true) ∧ Below W.heap.size W w' :=
  Fa.runs_law (by unfold maxLen at cm; omega) (by simp [Lit.wf] at wa; omega) h
end Go.Proofs.Ytiflmnmkmpjecaa
