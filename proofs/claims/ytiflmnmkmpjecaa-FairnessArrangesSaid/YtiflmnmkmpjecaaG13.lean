/- Several texts in one. -/
import Derived.Test.YtiflmnmkmpjecaaG6
import Derived.Test.YtiflmnmkmpjecaaG1
import Derived.BigQuiet
/- The walks of Runs and Frequency, the program's and the reference's. -/
set_option linter.unusedVariables false
namespace Go.Proofs.Ytiflmnmkmpjecaa
open Go.RowKit
namespace Fa
open Fr
theorem cells_at {w : World} {D : Option Addr} {n : Nat} {F : Nat → Value} (h : Cells w D n F) {k : Nat} (hk : k < n) : ∃ b off, D = some ⟨b, off, none⟩ ∧ b < w.heap.size ∧ w.cell? ⟨b, off + k, none⟩ = some (F k) := by
  obtain ⟨b, off, e, hlt, hc⟩ := h (by omega)
  exact ⟨b, off, e, hlt, hc k hk⟩
/-- Values of type bool. -/
def Bl (f : Nat → Bool) : Nat → Value := fun j => .bool (f j)
/-- Values of type int. -/
def Iv (f : Nat → Int) : Nat → Value := fun j => .int .i64 (f j)
/-- The number of runs of the first values. -/
def rn (f : Nat → Bool) : Nat → Nat
  | 0 => 0
  | i + 1 => rn f i + if i = 0 ∨ f i ≠ f (i - 1) then 1 else 0
theorem rn_le (f : Nat → Bool) : ∀ i, rn f i ≤ i
  | 0 => Nat.le_refl _
  | i + 1 => by have := rn_le f i; rw [rn]; split <;> omega
set_option maxHeartbeats 2000000 in
theorem runs_num {D : Option Addr} {n c : Nat} {f : Nat → Bool} {w : World} (hn : n ≤ 1000000) (hx : Cells w D n (Bl f)) :
    Calls Try.prog 22 #[.slice D n c] w fun e w' => e = .returned (.int .i64 (rn f n : Int)) ∧ Below w.heap.size w w' := by
  go_enter Try.func22, Try.ntmps22
  go_wp2
  go_loopw [3, 7] (fun s3 s7 wr => ∃ k : Nat, k ≤ n ∧ s7 = .int .i64 (k : Int) ∧ s3 = .int .i64 (rn f k : Int) ∧ Hid (Below w.heap.size w wr)) (fun _ i _ => n - (intOf i).toNat)
  case atStart => exact ⟨0, Nat.zero_le _, rfl, rfl, Below.refl _ _⟩
  case round =>
    obtain ⟨k, hk, rfl, rfl, HB⟩ := hrel
    by_cases hkn : k < n
    · obtain ⟨b, o, rfl, hlt, hc⟩ := cells_at (hx.below HB.out) hkn
      unfold Bl at hc
      have hr := rn_le f k
      have hw1 : IntKind.i64.wrap ((rn f k : Int) + 1) = (rn f k : Int) + 1 := IntWalk.i64_in _ (by omega)
      by_cases hk0 : k = 0
      · have e0 : ((k : Int) == 0) = true := by simp; omega
        have e0' : (k == 0) = true := by simp; omega
        have HR : Hid (rn f (k + 1) = rn f k + 1) := Lib.hid (by rw [rn, if_pos (.inl hk0)])
        clear hk0
        go_wp2
        go_quiet (fail)
        go_wp2
        go_roundw
        case rel => exact ⟨k + 1, by omega, by go_num, by rw [HR.out]; rfl, below_drewN HB.out _⟩
        case measure => simp [intOf] <;> omega
      · obtain ⟨p, hp⟩ : ∃ p, p = k - 1 := ⟨_, rfl⟩
        have e0 : ((k : Int) == 0) = false := by simp; omega
        have e0' : (k == 0) = false := by simp; omega
        obtain ⟨b2, o2, hD, _, hc2⟩ := cells_at (hx.below HB.out) (k := p) (by omega)
        injection hD with hD
        injection hD with hD1 hD2
        subst hD1 hD2
        unfold Bl at hc2
        have hw2 : IntKind.i64.wrap ((k : Int) - 1) = (p : Int) := by rw [IntWalk.i64_in _ (by omega)]; omega
        have i1 : (0 : Int) ≤ (p : Int) := by omega
        have i2 : (p : Int) < (n : Int) := by omega
        have i3 : (0 : Int) ≤ (k : Int) := by omega
        have i4 : (k : Int) < (n : Int) := by omega
        obtain ⟨x, hxx⟩ : ∃ x, x = f k := ⟨_, rfl⟩
        obtain ⟨y, hyy⟩ : ∃ x, x = f p := ⟨_, rfl⟩
        rw [← hxx] at hc
        rw [← hyy] at hc2
        have HS : Hid (x ≠ y → rn f (k + 1) = rn f k + 1) := Lib.hid (fun h => by rw [rn, if_pos (.inr (by rw [← hp, ← hxx, ← hyy]; exact h))])
        have HE : Hid (x = y → rn f (k + 1) = rn f k) := Lib.hid (fun h => by rw [rn, if_neg (by rw [← hp, ← hxx, ← hyy]; simp [h, hk0]), Nat.add_zero])
        clear hp hk0 hxx hyy
        cases x <;> cases y
        all_goals
          first
            | (have HR : Hid (rn f (k + 1) = rn f k) := Lib.hid (HE.out rfl)
               clear HS HE
               go_wp2
               go_quiet (fail)
               go_wp2
               go_roundw
               case rel => exact ⟨k + 1, by omega, by go_num, by rw [HR.out], below_drewN HB.out _⟩
               case measure => simp [intOf] <;> omega)
            | (have HR : Hid (rn f (k + 1) = rn f k + 1) := Lib.hid (HS.out (by decide))
               clear HS HE
               go_wp2
               go_quiet (fail)
               go_wp2
               go_roundw
               case rel => exact ⟨k + 1, by omega, by go_num, by rw [HR.out]; rfl, below_drewN HB.out _⟩
               case measure => simp [intOf] <;> omega)
    · obtain rfl : k = n := by omega
      go_wp2
      go_ret
      exact ⟨rfl, HB.out⟩
set_option maxHeartbeats 2000000 in
theorem rruns_num {D : Option Addr} {n c : Nat} {f : Nat → Bool} {w : World} (hn : n ≤ 1000000) (hx : Cells w D n (Bl f)) :
    Calls Try.prog 25 #[.slice D n c] w fun e w' => e = .returned (.int .i64 (rn f n : Int)) ∧ Below w.heap.size w w' := by
  go_enter Try.func25, Try.ntmps25
  go_wp2
  go_loopw [3, 4] (fun s3 s7 wr => ∃ k : Nat, k ≤ n ∧ s7 = .int .i64 (k : Int) ∧ s3 = .int .i64 (rn f k : Int) ∧ Hid (Below w.heap.size w wr)) (fun _ i _ => n - (intOf i).toNat)
  case atStart => exact ⟨0, Nat.zero_le _, rfl, rfl, Below.refl _ _⟩
  case round =>
    obtain ⟨k, hk, rfl, rfl, HB⟩ := hrel
    by_cases hkn : k < n
    · obtain ⟨b, o, rfl, hlt, hc⟩ := cells_at (hx.below HB.out) hkn
      unfold Bl at hc
      have hr := rn_le f k
      have hw1 : IntKind.i64.wrap ((rn f k : Int) + 1) = (rn f k : Int) + 1 := IntWalk.i64_in _ (by omega)
      by_cases hk0 : k = 0
      · have e0 : ((k : Int) == 0) = true := by simp; omega
        have e0' : (k == 0) = true := by simp; omega
        have HR : Hid (rn f (k + 1) = rn f k + 1) := Lib.hid (by rw [rn, if_pos (.inl hk0)])
        clear hk0
        go_wp2
        go_quiet (fail)
        go_wp2
        go_roundw
        case rel => exact ⟨k + 1, by omega, by go_num, by rw [HR.out]; rfl, below_drewN HB.out _⟩
        case measure => simp [intOf] <;> omega
      · obtain ⟨p, hp⟩ : ∃ p, p = k - 1 := ⟨_, rfl⟩
        have e0 : ((k : Int) == 0) = false := by simp; omega
        have e0' : (k == 0) = false := by simp; omega
        obtain ⟨b2, o2, hD, _, hc2⟩ := cells_at (hx.below HB.out) (k := p) (by omega)
        injection hD with hD
        injection hD with hD1 hD2
        subst hD1 hD2
        unfold Bl at hc2
        have hw2 : IntKind.i64.wrap ((k : Int) - 1) = (p : Int) := by rw [IntWalk.i64_in _ (by omega)]; omega
        have i1 : (0 : Int) ≤ (p : Int) := by omega
        have i2 : (p : Int) < (n : Int) := by omega
        have i3 : (0 : Int) ≤ (k : Int) := by omega
        have i4 : (k : Int) < (n : Int) := by omega
        obtain ⟨x, hxx⟩ : ∃ x, x = f k := ⟨_, rfl⟩
        obtain ⟨y, hyy⟩ : ∃ x, x = f p := ⟨_, rfl⟩
        rw [← hxx] at hc
        rw [← hyy] at hc2
        have HS : Hid (x ≠ y → rn f (k + 1) = rn f k + 1) := Lib.hid (fun h => by rw [rn, if_pos (.inr (by rw [← hp, ← hxx, ← hyy]; exact h))])
        have HE : Hid (x = y → rn f (k + 1) = rn f k) := Lib.hid (fun h => by rw [rn, if_neg (by rw [← hp, ← hxx, ← hyy]; simp [h, hk0]), Nat.add_zero])
        clear hp hk0 hxx hyy
        cases x <;> cases y
        all_goals
          first
            | (have HR : Hid (rn f (k + 1) = rn f k) := Lib.hid (HE.out rfl)
               clear HS HE
               go_wp2
               go_quiet (fail)
               go_wp2
               go_roundw
               case rel => exact ⟨k + 1, by omega, by go_num, by rw [HR.out], below_drewN HB.out _⟩
               case measure => simp [intOf] <;> omega)
            | (have HR : Hid (rn f (k + 1) = rn f k + 1) := Lib.hid (HS.out (by decide))
               clear HS HE
               go_wp2
               go_quiet (fail)
               go_wp2
               go_roundw
               case rel => exact ⟨k + 1, by omega, by go_num, by rw [HR.out]; rfl, below_drewN HB.out _⟩
               case measure => simp [intOf] <;> omega)
    · obtain rfl : k = n := by omega
      go_wp2
      go_ret
      exact ⟨rfl, HB.out⟩
/-- Rows of ints. -/
structure Rows2 (W : World) (A : Option Addr) (N : Nat) (B : Nat → Option Addr) (L C : Nat → Nat) (Z : Nat → Nat → Int) : Prop where
  top : Cells W A N (fun r => .slice (B r) (L r) (C r))
  row : ∀ r, r < N → Cells W (B r) (L r) (Iv (Z r))
theorem Rows2.below {W w : World} {A : Option Addr} {N : Nat} {B : Nat → Option Addr} {L C : Nat → Nat} {Z : Nat → Nat → Int} (h : Rows2 W A N B L C Z) (hb : Below W.heap.size W w) : Rows2 w A N B L C Z := ⟨h.top.below hb, fun r hr => (h.row r hr).below hb⟩
/-- How often j + 1 occurs among the first values. -/
def ctr (z : Nat → Int) : Nat → Nat → Nat
  | 0, _ => 0
  | i + 1, j => ctr z i j + if z i = (j : Int) + 1 then 1 else 0
def ctn (L : Nat → Nat) (Z : Nat → Nat → Int) : Nat → Nat → Nat
  | 0, _ => 0
  | r + 1, j => ctn L Z r j + ctr (Z r) (L r) j
def okr (m : Nat) (z : Nat → Int) : Nat → Bool
  | 0 => true
  | i + 1 => okr m z i && decide (1 ≤ z i ∧ z i ≤ m)
def okn (m : Nat) (L : Nat → Nat) (Z : Nat → Nat → Int) : Nat → Bool
  | 0 => true
  | r + 1 => okn m L Z r && okr m (Z r) (L r)
theorem ctr_le (z : Nat → Int) (j : Nat) : ∀ i, ctr z i j ≤ i
  | 0 => Nat.le_refl _
  | i + 1 => by have := ctr_le z j i; rw [ctr]; split <;> omega
theorem ctn_le {L : Nat → Nat} (Z : Nat → Nat → Int) (j : Nat) : ∀ r, (∀ k, k < r → L k ≤ 100) → ctn L Z r j ≤ 100 * r
  | 0, _ => Nat.le_refl _
  | r + 1, h => by have := ctn_le Z j r (fun k hk => h k (by omega)); have := ctr_le (Z r) j (L r); have := h r (by omega); rw [ctn]; omega
theorem okr_no {m : Nat} {z : Nat → Int} {i : Nat} (h : okr m z i = false) : ∀ {n}, i ≤ n → okr m z n = false := by
  intro n hn
  induction n with
  | zero => obtain rfl : i = 0 := by omega
            exact h
  | succ n ih =>
    rcases Nat.lt_or_ge i (n + 1) with h1 | h1
    · rw [okr, ih (by omega), Bool.false_and]
    · obtain rfl : i = n + 1 := by omega
      exact h
theorem okn_no {m : Nat} {L : Nat → Nat} {Z : Nat → Nat → Int} {r : Nat} (h : okr m (Z r) (L r) = false) : ∀ {n}, r < n → okn m L Z n = false := by
  intro n hn
  induction n with
  | zero => omega
  | succ n ih =>
    rcases Nat.lt_or_ge r n with h1 | h1
    · rw [okn, ih h1, Bool.false_and]
    · obtain rfl : r = n := by omega
      rw [okn, h, Bool.and_false]
theorem ctr_put {z : Nat → Int} {i p : Nat} (hz : z i = (p : Int) + 1) (c : Nat → Nat) (t : Nat) : Dg (fun j => c j + ctr z (i + 1) j) t = if t = p then .int .i64 (((c p + ctr z i p : Nat) : Int) + 1) else Dg (fun j => c j + ctr z i j) t := by
  unfold Dg
  simp only [ctr, hz]
  by_cases h : t = p
  · subst h
    rw [if_pos rfl, if_pos rfl]
    congr 1
  · rw [if_neg h, if_neg (by omega), Nat.add_zero]
set_option maxHeartbeats 1000000 in
theorem freq_range (w : World) {A : Option Addr} {N c : Nat} {m : Int} (h : m < 1 ∨ 1 ≤ m ∧ 80 < m) :
    Calls Try.prog 12 #[.slice A N c, .int .i64 m] w fun e w' => e = .returned (.tuple #[.slice none 0 0, .int .i64 2]) ∧ Below w.heap.size w w' := by
  rcases h with h | ⟨h, h2⟩
  all_goals
    go_enter Try.func12, Try.ntmps12
    go_wp2
    go_ret2
    exact ⟨rfl, Below.refl _ _⟩
set_option maxHeartbeats 1000000 in
theorem freq_limit (w : World) {A : Option Addr} {N c : Nat} {m : Int} (h : 1 ≤ m) (h2 : m ≤ 80) (hN : 512 < N) (hN2 : N ≤ 1000000) :
    Calls Try.prog 12 #[.slice A N c, .int .i64 m] w fun e w' => e = .returned (.tuple #[.slice none 0 0, .int .i64 3]) ∧ Below w.heap.size w w' := by
  go_enter Try.func12, Try.ntmps12
  go_wp2
  go_ret2
  exact ⟨rfl, Below.refl _ _⟩
set_option maxHeartbeats 4000000 in
set_option maxRecDepth 100000 in
theorem freq_main {A : Option Addr} {N c : Nat} {B : Nat → Option Addr} {L C : Nat → Nat} {Z : Nat → Nat → Int} {w : World} {m : Nat} (h1 : 1 ≤ m) (h2 : m ≤ 80) (hN : N ≤ 512) (hL : ∀ r, r < N → L r ≤ 100) (hR : Rows2 w A N B L C Z) :
    Calls Try.prog 12 #[.slice A N c, .int .i64 (m : Int)] w fun e w' => ((okn m L Z N = true ∧ ∃ D k, e = .returned (.tuple #[.slice D m k, .int .i64 0]) ∧ Cells w' D m (Dg (ctn L Z N))) ∨ (okn m L Z N = false ∧ e = .returned (.tuple #[.slice none 0 0, .int .i64 2]))) ∧ Below w.heap.size w w' := by
  obtain ⟨i0, hi, hz0, hz1, hz2⟩ := info_parts Try.infoI
  have HLH := Lib.hid hL
  have HR := Lib.hid hR
  clear hL hR
  go_enter Try.func12, Try.ntmps12
  go_wp2_with (at_make; refine wpList_make_full _ rfl _ _ 24 rfl w.heap.size 3 i0 (.int .i64 0) 1 Try.underlying24 hi hz0 hz1 _ _ _ _ m rfl rfl ?c1 ?c2 ?c3 ?c4 ?c5 ?_)
  case c1 => first | omega | rfl
  case c2 => first | omega | rfl
  case c3 => rw [hz2]; omega
  case c4 => unfold maxLen; omega
  case c5 => omega
  intro w4 hown1 hgr1
  have HB4 : Hid (Below w.heap.size w w4) := Lib.hid ((Below.refl _ _).grown hgr1 (Nat.le_refl _) (by simp))
  have hgl := (hown1.lt _ rfl).2
  have HO := Lib.hid (own_congr (F' := Dg (ctn L Z 0)) (made_own (z := .int .i64 0) hown1) fun j hj => rfl)
  clear hown1 hgr1
  obtain ⟨g, hg⟩ : ∃ g, g = w.heap.size := ⟨_, rfl⟩
  have HGW := Lib.hid (show w.heap.size ≤ g by omega)
  rw [show (some (⟨w.heap.size, 0, none⟩ : Addr)) = some ⟨g, 0, none⟩ by rw [hg]] at HO ⊢
  rw [← hg] at hgl
  clear hg
  have HOK0 : Hid (okn m L Z 0 = true) := Lib.hid rfl
  go_wp2
  go_loopw [24] (fun i wr => ∃ r : Nat, r ≤ N ∧ i = .int .i64 r ∧ Hid (okn m L Z r = true) ∧ Hid (wr.ownsRow w.heap.size 3 1 (.slice (some ⟨g, 0, none⟩) m m) m (row (m * 1) (Dg (ctn L Z r)))) ∧ Hid (Below w.heap.size w wr) ∧ g < wr.heap.size) (fun i _ => N - (intOf i).toNat)
  case atStart => exact ⟨0, Nat.zero_le _, rfl, HOK0, HO, HB4, hgl⟩
  case round =>
    obtain ⟨r, hr, rfl, HOK, HO1, HB5, hgl5⟩ := hrel
    by_cases hrn : r < N
    · obtain ⟨Br, hBr⟩ : ∃ x, x = B r := ⟨_, rfl⟩
      obtain ⟨Lr, hLr⟩ : ∃ x, x = L r := ⟨_, rfl⟩
      obtain ⟨Cr, hCr⟩ : ∃ x, x = C r := ⟨_, rfl⟩
      have hLr100 : Lr ≤ 100 := by rw [hLr]; exact HLH.out r hrn
      have HRN := Lib.hid hrn
      have HLR := Lib.hid hLr
      have HROW := Lib.hid (HR.out.row r hrn)
      rw [← hBr, ← hLr] at HROW
      obtain ⟨b1, o1, hA, hlt1, hc1⟩ := cells_at (HR.out.below HB5.out).top hrn
      replace hc1 : wr.cell? ⟨b1, o1 + r, none⟩ = some (.slice Br Lr Cr) := by rw [hc1, hBr, hLr, hCr]
      have HTOP := Lib.hid (fun (w' : World) (hw : Below w.heap.size w w') => show w'.cell? ⟨b1, o1 + r, none⟩ = some (.slice Br Lr Cr) by
        obtain ⟨b1', o1', hA', _, hc1'⟩ := cells_at (HR.out.below hw).top hrn
        rw [hA] at hA'
        injection hA' with hA'
        injection hA' with e1 e2
        subst e1 e2
        rw [hc1', hBr, hLr, hCr])
      have HTL := Lib.hid (fun (w' : World) (hw : Below w.heap.size w w') => show b1 < w'.heap.size by
        obtain ⟨b1', o1', hA', h, hc1'⟩ := cells_at (HR.out.below hw).top hrn
        rw [hA] at hA'
        injection hA' with hA'
        injection hA' with e1 e2
        subst e1 e2
        exact h)
      have HA := Lib.hid hA
      subst hA
      have HO2 := Lib.hid (own_congr (F' := Dg (fun j => ctn L Z r j + ctr (Z r) 0 j)) HO1.out fun j _ => rfl)
      have HO0 : Hid (okr m (Z r) 0 = true) := Lib.hid rfl
      obtain ⟨wo, hwo⟩ : ∃ wo : World, wo = wr := ⟨_, rfl⟩
      clear hBr hLr hCr HO1
      go_wp2
      go_loopw [30] (fun i ws => ∃ k : Nat, k ≤ Lr ∧ i = .int .i64 k ∧ Hid (okr m (Z r) k = true) ∧ Hid (ws.ownsRow w.heap.size 3 1 (.slice (some ⟨g, 0, none⟩) m m) m (row (m * 1) (Dg (fun j => ctn L Z r j + ctr (Z r) k j)))) ∧ Hid (Below w.heap.size w ws) ∧ g < ws.heap.size) (fun i _ => Lr - (intOf i).toNat)
      case atStart => exact ⟨0, Nat.zero_le _, rfl, HO0, HO2, HB5, hgl5⟩
      case round =>
        clear hwo hc1 hlt1 HO2
        obtain ⟨k, hk, rfl, HOR, HO3, HB6, hgl6⟩ := hrel
        have hc1 := HTOP.out _ HB6.out
        have hlt1 := HTL.out _ HB6.out
        by_cases hkl : k < Lr
        · obtain ⟨b2, o2, hB2, hlt2, hc2⟩ := cells_at (HROW.out.below HB6.out) hkl
          unfold Iv at hc2
          obtain ⟨z, hz⟩ : ∃ z, z = Z r k := ⟨_, rfl⟩
          rw [← hz] at hc2
          subst hB2
          by_cases hz1' : z < 1
          · have HNO : Hid (okn m L Z N = false) := Lib.hid (okn_no (okr_no (i := k + 1) (by rw [okr, ← hz, decide_eq_false (by omega), Bool.and_false]) (by rw [← show Lr = L r from HLR.out]; omega)) HRN.out)
            clear hz
            go_wp2
            go_ret2
            exact ⟨.inr ⟨HNO.out, rfl⟩, HB6.out⟩
          · by_cases hz2' : (m : Int) < z
            · have HNO : Hid (okn m L Z N = false) := Lib.hid (okn_no (okr_no (i := k + 1) (by rw [okr, ← hz, decide_eq_false (by omega), Bool.and_false]) (by rw [← show Lr = L r from HLR.out]; omega)) HRN.out)
              have e1 : (z < 1) = False := eq_false hz1'
              clear hz hz1'
              go_wp2
              go_ret2
              exact ⟨.inr ⟨HNO.out, rfl⟩, HB6.out⟩
            · obtain ⟨p, hp⟩ := Int.eq_ofNat_of_zero_le (show 0 ≤ z - 1 by omega)
              have hpm : p < m := by omega
              have hw1 : IntKind.i64.wrap (z - 1) = (p : Int) := by rw [IntWalk.i64_in _ (by omega)]; exact hp
              have HZ := Lib.hid (show Z r k = (p : Int) + 1 by rw [← hz]; omega)
              have HYES : Hid (okr m (Z r) (k + 1) = true) := Lib.hid (by rw [okr, HOR.out, ← hz, decide_eq_true (by omega)]; rfl)
              obtain ⟨hog, hof⟩ := own_at HO3.out hpm
              obtain ⟨q, hq⟩ : ∃ q, q = ctn L Z r p + ctr (Z r) k p := ⟨_, rfl⟩
              have hog2 : wr.cell? ⟨g, p, none⟩ = some (.int .i64 (q : Int)) := by rw [hog]; unfold Dg; rw [hq]
              have hq2 : q ≤ 60000 := by
                have a1 := ctn_le Z p r (fun k' hk' => HLH.out k' (by omega))
                have a2 := ctr_le (Z r) p k
                omega
              have hw2 : IntKind.i64.wrap ((q : Int) + 1) = (q : Int) + 1 := IntWalk.i64_in _ (by omega)
              have i1 : (0 : Int) ≤ (p : Int) := by omega
              have i2 : (p : Int) < (m : Int) := by omega
              have e1 : (z < 1) = False := eq_false hz1'
              have e2 : ((m : Int) < z) = False := eq_false hz2'
              have HQ := Lib.hid hq
              clear hz hp hog hz1' hz2' hq
              go_wp2
              go_roundw
              case rel =>
                have hp := own_put (k := p) (F' := Dg (fun j => ctn L Z r j + ctr (Z r) (k + 1) j)) HO3.out fun t _ => ctr_put HZ.out (ctn L Z r) t
                rw [← HQ.out] at hp
                exact ⟨k + 1, by omega, by go_num, HYES, Lib.hid hp.1, Lib.hid (HB6.out.grown hp.2 HB6.out.size (fun k' hk' => by injection hk' with hk'; have := HGW.out; omega)), by simpa using hgl6⟩
              case measure => simp [intOf] <;> omega
        · obtain rfl : k = Lr := by omega
          have HOKN : Hid (okn m L Z (r + 1) = true) := Lib.hid (by rw [okn, HOK.out, ← show k = L r from HLR.out, HOR.out]; rfl)
          have HON := Lib.hid (own_congr (F' := Dg (ctn L Z (r + 1))) HO3.out fun j _ => by unfold Dg; rw [ctn, ← show k = L r from HLR.out])
          go_wp2
          go_roundw
          case rel => exact ⟨r + 1, by have := HRN.out; omega, by go_num, HOKN, HON, HB6, hgl6⟩
          case measure => have := HRN.out; simp [intOf] <;> omega
    · obtain rfl : r = N := by omega
      have HC := Lib.hid (Cells.of_own HO1.out)
      go_wp2
      go_ret2
      exact ⟨.inl ⟨HOK.out, _, _, rfl, by rw [← Nat.mul_one m]; exact HC.out⟩, HB5.out⟩
set_option maxHeartbeats 1000000 in
theorem rfreq_range (w : World) {A : Option Addr} {N c : Nat} {m : Int} (h : m < 1 ∨ 1 ≤ m ∧ 80 < m) :
    Calls Try.prog 13 #[.slice A N c, .int .i64 m] w fun e w' => e = .returned (.tuple #[.slice none 0 0, .int .i64 2]) ∧ Below w.heap.size w w' := by
  rcases h with h | ⟨h, h2⟩
  all_goals
    go_enter Try.func13, Try.ntmps13
    go_wp2
    go_ret2
    exact ⟨rfl, Below.refl _ _⟩
set_option maxHeartbeats 1000000 in
theorem rfreq_limit (w : World) {A : Option Addr} {N c : Nat} {m : Int} (h : 1 ≤ m) (h2 : m ≤ 80) (hN : 512 < N) (hN2 : N ≤ 1000000) :
    Calls Try.prog 13 #[.slice A N c, .int .i64 m] w fun e w' => e = .returned (.tuple #[.slice none 0 0, .int .i64 3]) ∧ Below w.heap.size w w' := by
  go_enter Try.func13, Try.ntmps13
  go_wp2
  go_ret2
  exact ⟨rfl, Below.refl _ _⟩
set_option maxHeartbeats 4000000 in
set_option maxRecDepth 100000 in
theorem rfreq_main {A : Option Addr} {N c : Nat} {B : Nat → Option Addr} {L C : Nat → Nat} {Z : Nat → Nat → Int} {w : World} {m : Nat} (h1 : 1 ≤ m) (h2 : m ≤ 80) (hN : N ≤ 512) (hL : ∀ r, r < N → L r ≤ 100) (hR : Rows2 w A N B L C Z) :
    Calls Try.prog 13 #[.slice A N c, .int .i64 (m : Int)] w fun e w' => ((okn m L Z N = true ∧ ∃ D k, e = .returned (.tuple #[.slice D m k, .int .i64 0]) ∧ Cells w' D m (Dg (ctn L Z N))) ∨ (okn m L Z N = false ∧ e = .returned (.tuple #[.slice none 0 0, .int .i64 2]))) ∧ Below w.heap.size w w' := by
  obtain ⟨i0, hi, hz0, hz1, hz2⟩ := info_parts Try.infoI
  have HLH := Lib.hid hL
  have HR := Lib.hid hR
  clear hL hR
  go_enter Try.func13, Try.ntmps13
  go_wp2_with (at_make; refine wpList_make_full _ rfl _ _ 24 rfl w.heap.size 3 i0 (.int .i64 0) 1 Try.underlying24 hi hz0 hz1 _ _ _ _ m rfl rfl ?c1 ?c2 ?c3 ?c4 ?c5 ?_)
  case c1 => first | omega | rfl
  case c2 => first | omega | rfl
  case c3 => rw [hz2]; omega
  case c4 => unfold maxLen; omega
  case c5 => omega
  intro w4 hown1 hgr1
  have HB4 : Hid (Below w.heap.size w w4) := Lib.hid ((Below.refl _ _).grown hgr1 (Nat.le_refl _) (by simp))
  have hgl := (hown1.lt _ rfl).2
  have HO := Lib.hid (own_congr (F' := Dg (ctn L Z 0)) (made_own (z := .int .i64 0) hown1) fun j hj => rfl)
  clear hown1 hgr1
  obtain ⟨g, hg⟩ : ∃ g, g = w.heap.size := ⟨_, rfl⟩
  have HGW := Lib.hid (show w.heap.size ≤ g by omega)
  rw [show (some (⟨w.heap.size, 0, none⟩ : Addr)) = some ⟨g, 0, none⟩ by rw [hg]] at HO ⊢
  rw [← hg] at hgl
  clear hg
  have HOK0 : Hid (okn m L Z 0 = true) := Lib.hid rfl
  go_wp2
  go_loopw [7] (fun i wr => ∃ r : Nat, r ≤ N ∧ i = .int .i64 r ∧ Hid (okn m L Z r = true) ∧ Hid (wr.ownsRow w.heap.size 3 1 (.slice (some ⟨g, 0, none⟩) m m) m (row (m * 1) (Dg (ctn L Z r)))) ∧ Hid (Below w.heap.size w wr) ∧ g < wr.heap.size) (fun i _ => N - (intOf i).toNat)
  case atStart => exact ⟨0, Nat.zero_le _, rfl, HOK0, HO, HB4, hgl⟩
  case round =>
    obtain ⟨r, hr, rfl, HOK, HO1, HB5, hgl5⟩ := hrel
    by_cases hrn : r < N
    · obtain ⟨Br, hBr⟩ : ∃ x, x = B r := ⟨_, rfl⟩
      obtain ⟨Lr, hLr⟩ : ∃ x, x = L r := ⟨_, rfl⟩
      obtain ⟨Cr, hCr⟩ : ∃ x, x = C r := ⟨_, rfl⟩
      have hLr100 : Lr ≤ 100 := by rw [hLr]; exact HLH.out r hrn
      have HRN := Lib.hid hrn
      have HLR := Lib.hid hLr
      have HROW := Lib.hid (HR.out.row r hrn)
      rw [← hBr, ← hLr] at HROW
      obtain ⟨b1, o1, hA, hlt1, hc1⟩ := cells_at (HR.out.below HB5.out).top hrn
      replace hc1 : wr.cell? ⟨b1, o1 + r, none⟩ = some (.slice Br Lr Cr) := by rw [hc1, hBr, hLr, hCr]
      have HTOP := Lib.hid (fun (w' : World) (hw : Below w.heap.size w w') => show w'.cell? ⟨b1, o1 + r, none⟩ = some (.slice Br Lr Cr) by
        obtain ⟨b1', o1', hA', _, hc1'⟩ := cells_at (HR.out.below hw).top hrn
        rw [hA] at hA'
        injection hA' with hA'
        injection hA' with e1 e2
        subst e1 e2
        rw [hc1', hBr, hLr, hCr])
      have HTL := Lib.hid (fun (w' : World) (hw : Below w.heap.size w w') => show b1 < w'.heap.size by
        obtain ⟨b1', o1', hA', h, hc1'⟩ := cells_at (HR.out.below hw).top hrn
        rw [hA] at hA'
        injection hA' with hA'
        injection hA' with e1 e2
        subst e1 e2
        exact h)
      have HA := Lib.hid hA
      subst hA
      have HO2 := Lib.hid (own_congr (F' := Dg (fun j => ctn L Z r j + ctr (Z r) 0 j)) HO1.out fun j _ => rfl)
      have HO0 : Hid (okr m (Z r) 0 = true) := Lib.hid rfl
      obtain ⟨wo, hwo⟩ : ∃ wo : World, wo = wr := ⟨_, rfl⟩
      clear hBr hLr hCr HO1
      go_wp2
      go_loopw [8] (fun i ws => ∃ k : Nat, k ≤ Lr ∧ i = .int .i64 k ∧ Hid (okr m (Z r) k = true) ∧ Hid (ws.ownsRow w.heap.size 3 1 (.slice (some ⟨g, 0, none⟩) m m) m (row (m * 1) (Dg (fun j => ctn L Z r j + ctr (Z r) k j)))) ∧ Hid (Below w.heap.size w ws) ∧ g < ws.heap.size) (fun i _ => Lr - (intOf i).toNat)
      case atStart => exact ⟨0, Nat.zero_le _, rfl, HO0, HO2, HB5, hgl5⟩
      case round =>
        clear hwo hc1 hlt1 HO2
        obtain ⟨k, hk, rfl, HOR, HO3, HB6, hgl6⟩ := hrel
        have hc1 := HTOP.out _ HB6.out
        have hlt1 := HTL.out _ HB6.out
        by_cases hkl : k < Lr
        · obtain ⟨b2, o2, hB2, hlt2, hc2⟩ := cells_at (HROW.out.below HB6.out) hkl
          unfold Iv at hc2
          obtain ⟨z, hz⟩ : ∃ z, z = Z r k := ⟨_, rfl⟩
          rw [← hz] at hc2
          subst hB2
          by_cases hz1' : z < 1
          · have HNO : Hid (okn m L Z N = false) := Lib.hid (okn_no (okr_no (i := k + 1) (by rw [okr, ← hz, decide_eq_false (by omega), Bool.and_false]) (by rw [← show Lr = L r from HLR.out]; omega)) HRN.out)
            clear hz
            go_wp2
            go_ret2
            exact ⟨.inr ⟨HNO.out, rfl⟩, HB6.out⟩
          · by_cases hz2' : (m : Int) < z
            · have HNO : Hid (okn m L Z N = false) := Lib.hid (okn_no (okr_no (i := k + 1) (by rw [okr, ← hz, decide_eq_false (by omega), Bool.and_false]) (by rw [← show Lr = L r from HLR.out]; omega)) HRN.out)
              have e1 : (z < 1) = False := eq_false hz1'
              clear hz hz1'
              go_wp2
              go_ret2
              exact ⟨.inr ⟨HNO.out, rfl⟩, HB6.out⟩
            · obtain ⟨p, hp⟩ := Int.eq_ofNat_of_zero_le (show 0 ≤ z - 1 by omega)
              have hpm : p < m := by omega
              have hw1 : IntKind.i64.wrap (z - 1) = (p : Int) := by rw [IntWalk.i64_in _ (by omega)]; exact hp
              have HZ := Lib.hid (show Z r k = (p : Int) + 1 by rw [← hz]; omega)
              have HYES : Hid (okr m (Z r) (k + 1) = true) := Lib.hid (by rw [okr, HOR.out, ← hz, decide_eq_true (by omega)]; rfl)
              obtain ⟨hog, hof⟩ := own_at HO3.out hpm
              obtain ⟨q, hq⟩ : ∃ q, q = ctn L Z r p + ctr (Z r) k p := ⟨_, rfl⟩
              have hog2 : wr.cell? ⟨g, p, none⟩ = some (.int .i64 (q : Int)) := by rw [hog]; unfold Dg; rw [hq]
              have hq2 : q ≤ 60000 := by
                have a1 := ctn_le Z p r (fun k' hk' => HLH.out k' (by omega))
                have a2 := ctr_le (Z r) p k
                omega
              have hw2 : IntKind.i64.wrap ((q : Int) + 1) = (q : Int) + 1 := IntWalk.i64_in _ (by omega)
              have i1 : (0 : Int) ≤ (p : Int) := by omega
              have i2 : (p : Int) < (m : Int) := by omega
              have e1 : (z < 1) = False := eq_false hz1'
              have e2 : ((m : Int) < z) = False := eq_false hz2'
              have HQ := Lib.hid hq
              clear hz hp hog hz1' hz2' hq
              go_wp2
              go_roundw
              case rel =>
                have hp := own_put (k := p) (F' := Dg (fun j => ctn L Z r j + ctr (Z r) (k + 1) j)) HO3.out fun t _ => ctr_put HZ.out (ctn L Z r) t
                rw [← HQ.out] at hp
                exact ⟨k + 1, by omega, by go_num, HYES, Lib.hid hp.1, Lib.hid (HB6.out.grown hp.2 HB6.out.size (fun k' hk' => by injection hk' with hk'; have := HGW.out; omega)), by simpa using hgl6⟩
              case measure => simp [intOf] <;> omega
        · obtain rfl : k = Lr := by omega
          have HOKN : Hid (okn m L Z (r + 1) = true) := Lib.hid (by rw [okn, HOK.out, ← show k = L r from HLR.out, HOR.out]; rfl)
          have HON := Lib.hid (own_congr (F' := Dg (ctn L Z (r + 1))) HO3.out fun j _ => by unfold Dg; rw [ctn, ← show k = L r from HLR.out])
          go_wp2
          go_roundw
          case rel => exact ⟨r + 1, by have := HRN.out; omega, by go_num, HOKN, HON, HB6, hgl6⟩
          case measure => have := HRN.out; simp [intOf] <;> omega
    · obtain rfl : r = N := by omega
      have HC := Lib.hid (Cells.of_own HO1.out)
      go_wp2
      go_ret2
      exact ⟨.inl ⟨HOK.out, _, _, rfl, by rw [← Nat.mul_one m]; exact HC.out⟩, HB5.out⟩
end Fa
end Go.Proofs.Ytiflmnmkmpjecaa

/- The walks of checkCounts, the program's and the reference's. -/
set_option linter.unusedVariables false
namespace Go.Proofs.Ytiflmnmkmpjecaa
open Go.RowKit
namespace Fa
open Fr
def sm (f : Nat → Int) : Nat → Int
  | 0 => 0
  | i + 1 => sm f i + f i
/-- All counts and weights are in range. -/
def rgo (o p : Nat → Int) : Nat → Bool
  | 0 => true
  | i + 1 => rgo o p i && decide (0 ≤ o i ∧ o i ≤ 1000000 ∧ 0 ≤ p i ∧ p i ≤ 1000000)
/-- One of the weights is 0. -/
def zr (p : Nat → Int) : Nat → Bool
  | 0 => false
  | i + 1 => zr p i || p i == 0
theorem rgo_no {o p : Nat → Int} {i : Nat} (h : rgo o p i = false) : ∀ {n}, i ≤ n → rgo o p n = false := by
  intro n hn
  induction n with
  | zero => obtain rfl : i = 0 := by omega
            exact h
  | succ n ih =>
    rcases Nat.lt_or_ge i (n + 1) with h1 | h1
    · rw [rgo, ih (by omega), Bool.false_and]
    · obtain rfl : i = n + 1 := by omega
      exact h
theorem rgo_at {o p : Nat → Int} : ∀ {n}, rgo o p n = true → ∀ {i}, i < n → 0 ≤ o i ∧ o i ≤ 1000000 ∧ 0 ≤ p i ∧ p i ≤ 1000000
  | 0, _, _, hi => by omega
  | n + 1, h, i, hi => by
    rw [rgo, Bool.and_eq_true, decide_eq_true_eq] at h
    rcases Nat.lt_or_ge i n with h1 | h1
    · exact rgo_at h.1 h1
    · obtain rfl : i = n := by omega
      exact h.2
theorem sm_le {f : Nat → Int} : ∀ {n}, (∀ i, i < n → 0 ≤ f i ∧ f i ≤ 1000000) → 0 ≤ sm f n ∧ sm f n ≤ 1000000 * n
  | 0, _ => by simp [sm]
  | n + 1, h => by
    have h1 := sm_le (n := n) fun i hi => h i (by omega)
    have h2 := h n (by omega)
    rw [sm]
    omega
theorem rgo_sums {o p : Nat → Int} {n : Nat} (h : rgo o p n = true) : 0 ≤ sm o n ∧ sm o n ≤ 1000000 * n ∧ 0 ≤ sm p n ∧ sm p n ≤ 1000000 * n := by
  have h1 := sm_le (f := o) (n := n) fun i hi => ⟨(rgo_at h hi).1, (rgo_at h hi).2.1⟩
  have h2 := sm_le (f := p) (n := n) fun i hi => ⟨(rgo_at h hi).2.2.1, (rgo_at h hi).2.2.2⟩
  exact ⟨h1.1, h1.2, h2.1, h2.2⟩
/-- What the check gives. -/
def ck (o p : Nat → Int) (n m : Nat) : Int × Int × Int :=
  if n = 0 ∨ 80 < n ∨ m ≠ n then (0, 0, 3) else if rgo o p n = false then (0, 0, 2) else if zr p n = true ∨ sm o n = 0 then (0, 0, 10) else (sm o n, sm p n, 0)
set_option maxHeartbeats 1000000 in
theorem chk_len {A B : Option Addr} {n m c c' : Nat} {o p : Nat → Int} {w : World} (hn : n ≤ 1000000) (hm : m ≤ 1000000) (h : n = 0 ∨ 0 < n ∧ 80 < n ∨ 0 < n ∧ n ≤ 80 ∧ m ≠ n) :
    Calls Try.prog 33 #[.slice A n c, .slice B m c'] w fun e w' => e = .returned (.tuple #[.int .i64 0, .int .i64 0, .int .i64 3]) ∧ Below w.heap.size w w' := by
  rcases h with h | ⟨h0, h⟩ | ⟨h0, h1, h⟩
  · subst h
    go_enter Try.func33, Try.ntmps33
    go_wp2
    refine bodyPost_ret (v := .tuple #[.int .i64 0, .int .i64 0, .int .i64 3]) (by simp [results, Try.results33, go_sem]) rfl ?_
    exact ⟨rfl, Below.refl _ _⟩
  · have e0 : ((n : Int) == 0) = false := by simp; omega
    have e1 : (n == 0) = false := by simp; omega
    go_enter Try.func33, Try.ntmps33
    go_wp2
    refine bodyPost_ret (v := .tuple #[.int .i64 0, .int .i64 0, .int .i64 3]) (by simp [results, Try.results33, go_sem]) rfl ?_
    exact ⟨rfl, Below.refl _ _⟩
  · have e0 : ((n : Int) == 0) = false := by simp; omega
    have e1 : (n == 0) = false := by simp; omega
    have e2 : ((m : Int) != (n : Int)) = true := by simp; omega
    have e3 : (m != n) = true := by simp; omega
    have e4 : ((n : Int) != (m : Int)) = true := by simp; omega
    have e5 : (n != m) = true := by simp; omega
    go_enter Try.func33, Try.ntmps33
    go_wp2
    refine bodyPost_ret (v := .tuple #[.int .i64 0, .int .i64 0, .int .i64 3]) (by simp [results, Try.results33, go_sem]) rfl ?_
    exact ⟨rfl, Below.refl _ _⟩
set_option maxHeartbeats 4000000 in
set_option maxRecDepth 100000 in
theorem chk_main {A B : Option Addr} {n m c c' : Nat} {o p : Nat → Int} {w : World} (h0 : 0 < n) (h1 : n ≤ 80) (hm : m = n) (hA : Cells w A n (Iv o)) (hB : Cells w B n (Iv p)) :
    Calls Try.prog 33 #[.slice A n c, .slice B m c'] w fun e w' => ((rgo o p n = false ∧ e = .returned (.tuple #[.int .i64 0, .int .i64 0, .int .i64 2])) ∨ (rgo o p n = true ∧ (zr p n = true ∨ sm o n = 0) ∧ e = .returned (.tuple #[.int .i64 0, .int .i64 0, .int .i64 10])) ∨ (rgo o p n = true ∧ zr p n = false ∧ sm o n ≠ 0 ∧ e = .returned (.tuple #[.int .i64 (sm o n), .int .i64 (sm p n), .int .i64 0]))) ∧ Below w.heap.size w w' := by
  obtain rfl : n = m := hm.symm
  have e0 : ((n : Int) == 0) = false := by simp; omega
  have e1 : (n == 0) = false := by simp; omega
  have HR0 : Hid (rgo o p 0 = true) := Lib.hid rfl
  go_enter Try.func33, Try.ntmps33
  go_wp2
  go_loopw [7, 8, 9, 28] (fun s7 s8 s9 s28 wr => ∃ (k : Nat) (x y : Int) (z : Bool), k ≤ n ∧ s7 = .int .i64 x ∧ s8 = .int .i64 y ∧ s9 = .bool z ∧ s28 = .int .i64 (k : Int) ∧ Hid (x = sm o k) ∧ Hid (y = sm p k) ∧ Hid (z = zr p k) ∧ Hid (rgo o p k = true) ∧ Hid (Below w.heap.size w wr)) (fun _ _ _ i _ => n - (intOf i).toNat)
  case atStart => exact ⟨0, 0, 0, false, Nat.zero_le _, rfl, rfl, rfl, rfl, Lib.hid rfl, Lib.hid rfl, Lib.hid rfl, HR0, Below.refl _ _⟩
  case round =>
    obtain ⟨k, x, y, z, hk, rfl, rfl, rfl, rfl, HX, HY, HZ, HRG, HB⟩ := hrel
    by_cases hkn : k < n
    · obtain ⟨b1, o1, hD1, hlt1, hc1⟩ := cells_at (hA.below HB.out) hkn
      obtain ⟨b2, o2, hD2, hlt2, hc2⟩ := cells_at (hB.below HB.out) hkn
      unfold Iv at hc1 hc2
      obtain ⟨u, hu⟩ : ∃ u, u = o k := ⟨_, rfl⟩
      obtain ⟨v, hv⟩ : ∃ v, v = p k := ⟨_, rfl⟩
      rw [← hu] at hc1
      rw [← hv] at hc2
      subst hD1 hD2
      have hs := rgo_sums HRG.out
      have hx0 : 0 ≤ x ∧ x ≤ 80000000 := by have := HX.out; omega
      have hy0 : 0 ≤ y ∧ y ≤ 80000000 := by have := HY.out; omega
      have HU := Lib.hid hu
      have HV := Lib.hid hv
      have HBAD : Hid (¬(0 ≤ u ∧ u ≤ 1000000 ∧ 0 ≤ v ∧ v ≤ 1000000) → rgo o p n = false) := Lib.hid fun h => rgo_no (i := k + 1) (by rw [rgo, ← hu, ← hv, decide_eq_false h, Bool.and_false]) (by omega)
      clear hu hv hs
      by_cases g1 : u < 0
      · have HN := Lib.hid (HBAD.out (by omega))
        clear HBAD
        go_wp2
        refine bodyPost_ret (v := .tuple #[.int .i64 0, .int .i64 0, .int .i64 2]) (by simp [results, Try.results33, go_sem]) rfl ?_
        exact ⟨.inl ⟨HN.out, rfl⟩, HB.out⟩
      by_cases g2 : 1000000 < u
      · have HN := Lib.hid (HBAD.out (by omega))
        have f1 : (u < 0) = False := eq_false g1
        clear HBAD g1
        go_wp2
        refine bodyPost_ret (v := .tuple #[.int .i64 0, .int .i64 0, .int .i64 2]) (by simp [results, Try.results33, go_sem]) rfl ?_
        exact ⟨.inl ⟨HN.out, rfl⟩, HB.out⟩
      by_cases g3 : v < 0
      · have HN := Lib.hid (HBAD.out (by omega))
        have f1 : (u < 0) = False := eq_false g1
        have f2 : (1000000 < u) = False := eq_false g2
        clear HBAD g1 g2
        go_wp2
        refine bodyPost_ret (v := .tuple #[.int .i64 0, .int .i64 0, .int .i64 2]) (by simp [results, Try.results33, go_sem]) rfl ?_
        exact ⟨.inl ⟨HN.out, rfl⟩, HB.out⟩
      by_cases g4 : 1000000 < v
      · have HN := Lib.hid (HBAD.out (by omega))
        have f1 : (u < 0) = False := eq_false g1
        have f2 : (1000000 < u) = False := eq_false g2
        have f3 : (v < 0) = False := eq_false g3
        clear HBAD g1 g2 g3
        go_wp2
        refine bodyPost_ret (v := .tuple #[.int .i64 0, .int .i64 0, .int .i64 2]) (by simp [results, Try.results33, go_sem]) rfl ?_
        exact ⟨.inl ⟨HN.out, rfl⟩, HB.out⟩
      have HOK : Hid (rgo o p (k + 1) = true) := Lib.hid (by rw [rgo, HRG.out, ← HU.out, ← HV.out, decide_eq_true (by omega)]; rfl)
      have hw1 : IntKind.i64.wrap (x + u) = x + u := IntWalk.i64_in _ (by omega)
      have hw2 : IntKind.i64.wrap (y + v) = y + v := IntWalk.i64_in _ (by omega)
      have HX2 : Hid (x + u = sm o (k + 1)) := Lib.hid (by rw [sm, ← HX.out, ← HU.out])
      have HY2 : Hid (y + v = sm p (k + 1)) := Lib.hid (by rw [sm, ← HY.out, ← HV.out])
      have f1 : (u < 0) = False := eq_false g1
      have f2 : (1000000 < u) = False := eq_false g2
      have f3 : (v < 0) = False := eq_false g3
      have f4 : (1000000 < v) = False := eq_false g4
      have HVZ : Hid (zr p (k + 1) = (z || v == 0)) := Lib.hid (by rw [zr, ← HZ.out, ← HV.out])
      have hv0 : (v == 0) = true ∨ (v == 0) = false := by cases v == 0 <;> simp
      clear HBAD g1 g2 g3 g4
      cases z with
      | true =>
        go_wp2
        go_roundw
        case rel => exact ⟨k + 1, x + u, y + v, true, by omega, rfl, rfl, rfl, by go_num, HX2, HY2, Lib.hid (by rw [HVZ.out]; rfl), HOK, HB⟩
        case measure => simp [intOf] <;> omega
      | false =>
        rcases hv0 with hv0 | hv0
        · rw [hv0] at HVZ
          go_wp2
          go_roundw
          case rel => exact ⟨k + 1, x + u, y + v, true, by omega, rfl, rfl, rfl, by go_num, HX2, HY2, Lib.hid (by rw [HVZ.out]; rfl), HOK, HB⟩
          case measure => simp [intOf] <;> omega
        · rw [hv0] at HVZ
          go_wp2
          go_roundw
          case rel => exact ⟨k + 1, x + u, y + v, false, by omega, rfl, rfl, rfl, by go_num, HX2, HY2, Lib.hid (by rw [HVZ.out]; rfl), HOK, HB⟩
          case measure => simp [intOf] <;> omega
    · obtain rfl : k = n := by omega
      cases z with
      | true =>
        have HZ2 : Hid (zr p k = true) := Lib.hid HZ.out.symm
        go_wp2
        refine bodyPost_ret (v := .tuple #[.int .i64 0, .int .i64 0, .int .i64 10]) (by simp [results, Try.results33, go_sem]) rfl ?_
        exact ⟨.inr (.inl ⟨HRG.out, .inl HZ2.out, rfl⟩), HB.out⟩
      | false =>
        have HZ2 : Hid (zr p k = false) := Lib.hid HZ.out.symm
        by_cases hx : x = 0
        · have f1 : (x == 0) = true := by simp [hx]
          have HX0 : Hid (sm o k = 0) := Lib.hid (by rw [← HX.out, hx])
          clear hx
          go_wp2
          refine bodyPost_ret (v := .tuple #[.int .i64 0, .int .i64 0, .int .i64 10]) (by simp [results, Try.results33, go_sem]) rfl ?_
          exact ⟨.inr (.inl ⟨HRG.out, .inr HX0.out, rfl⟩), HB.out⟩
        · have f1 : (x == 0) = false := by simp [hx]
          have HX0 : Hid (sm o k ≠ 0) := Lib.hid (by rw [← HX.out]; exact hx)
          clear hx
          go_wp2
          refine bodyPost_ret (v := .tuple #[.int .i64 x, .int .i64 y, .int .i64 0]) (by simp [results, Try.results33, go_sem]) rfl ?_
          exact ⟨.inr (.inr ⟨HRG.out, HZ2.out, HX0.out, by rw [← HX.out, ← HY.out]⟩), HB.out⟩
set_option maxHeartbeats 1000000 in
theorem rchk_len {A B : Option Addr} {n m c c' : Nat} {o p : Nat → Int} {w : World} (hn : n ≤ 1000000) (hm : m ≤ 1000000) (h : n = 0 ∨ 0 < n ∧ 80 < n ∨ 0 < n ∧ n ≤ 80 ∧ m ≠ n) :
    Calls Try.prog 39 #[.slice A n c, .slice B m c'] w fun e w' => e = .returned (.tuple #[.int .i64 0, .int .i64 0, .int .i64 3]) ∧ Below w.heap.size w w' := by
  rcases h with h | ⟨h0, h⟩ | ⟨h0, h1, h⟩
  · subst h
    go_enter Try.func39, Try.ntmps39
    go_wp2
    refine bodyPost_ret (v := .tuple #[.int .i64 0, .int .i64 0, .int .i64 3]) (by simp [results, Try.results39, go_sem]) rfl ?_
    exact ⟨rfl, Below.refl _ _⟩
  · have e0 : ((n : Int) == 0) = false := by simp; omega
    have e1 : (n == 0) = false := by simp; omega
    go_enter Try.func39, Try.ntmps39
    go_wp2
    refine bodyPost_ret (v := .tuple #[.int .i64 0, .int .i64 0, .int .i64 3]) (by simp [results, Try.results39, go_sem]) rfl ?_
    exact ⟨rfl, Below.refl _ _⟩
  · have e0 : ((n : Int) == 0) = false := by simp; omega
    have e1 : (n == 0) = false := by simp; omega
    have e2 : ((m : Int) != (n : Int)) = true := by simp; omega
    have e3 : (m != n) = true := by simp; omega
    have e4 : ((n : Int) != (m : Int)) = true := by simp; omega
    have e5 : (n != m) = true := by simp; omega
    go_enter Try.func39, Try.ntmps39
    go_wp2
    refine bodyPost_ret (v := .tuple #[.int .i64 0, .int .i64 0, .int .i64 3]) (by simp [results, Try.results39, go_sem]) rfl ?_
    exact ⟨rfl, Below.refl _ _⟩
set_option maxHeartbeats 4000000 in
set_option maxRecDepth 100000 in
theorem rchk_main {A B : Option Addr} {n m c c' : Nat} {o p : Nat → Int} {w : World} (h0 : 0 < n) (h1 : n ≤ 80) (hm : m = n) (hA : Cells w A n (Iv o)) (hB : Cells w B n (Iv p)) :
    Calls Try.prog 39 #[.slice A n c, .slice B m c'] w fun e w' => ((rgo o p n = false ∧ e = .returned (.tuple #[.int .i64 0, .int .i64 0, .int .i64 2])) ∨ (rgo o p n = true ∧ (zr p n = true ∨ sm o n = 0) ∧ e = .returned (.tuple #[.int .i64 0, .int .i64 0, .int .i64 10])) ∨ (rgo o p n = true ∧ zr p n = false ∧ sm o n ≠ 0 ∧ e = .returned (.tuple #[.int .i64 (sm o n), .int .i64 (sm p n), .int .i64 0]))) ∧ Below w.heap.size w w' := by
  obtain rfl : n = m := hm.symm
  have e0 : ((n : Int) == 0) = false := by simp; omega
  have e1 : (n == 0) = false := by simp; omega
  have HR0 : Hid (rgo o p 0 = true) := Lib.hid rfl
  go_enter Try.func39, Try.ntmps39
  go_wp2
  go_loopw [7, 8, 9, 10] (fun s7 s8 s9 s28 wr => ∃ (k : Nat) (x y : Int) (z : Bool), k ≤ n ∧ s7 = .int .i64 x ∧ s8 = .int .i64 y ∧ s9 = .bool z ∧ s28 = .int .i64 (k : Int) ∧ Hid (x = sm o k) ∧ Hid (y = sm p k) ∧ Hid (z = zr p k) ∧ Hid (rgo o p k = true) ∧ Hid (Below w.heap.size w wr)) (fun _ _ _ i _ => n - (intOf i).toNat)
  case atStart => exact ⟨0, 0, 0, false, Nat.zero_le _, rfl, rfl, rfl, rfl, Lib.hid rfl, Lib.hid rfl, Lib.hid rfl, HR0, Below.refl _ _⟩
  case round =>
    obtain ⟨k, x, y, z, hk, rfl, rfl, rfl, rfl, HX, HY, HZ, HRG, HB⟩ := hrel
    by_cases hkn : k < n
    · obtain ⟨b1, o1, hD1, hlt1, hc1⟩ := cells_at (hA.below HB.out) hkn
      obtain ⟨b2, o2, hD2, hlt2, hc2⟩ := cells_at (hB.below HB.out) hkn
      unfold Iv at hc1 hc2
      obtain ⟨u, hu⟩ : ∃ u, u = o k := ⟨_, rfl⟩
      obtain ⟨v, hv⟩ : ∃ v, v = p k := ⟨_, rfl⟩
      rw [← hu] at hc1
      rw [← hv] at hc2
      subst hD1 hD2
      have hs := rgo_sums HRG.out
      have hx0 : 0 ≤ x ∧ x ≤ 80000000 := by have := HX.out; omega
      have hy0 : 0 ≤ y ∧ y ≤ 80000000 := by have := HY.out; omega
      have HU := Lib.hid hu
      have HV := Lib.hid hv
      have HBAD : Hid (¬(0 ≤ u ∧ u ≤ 1000000 ∧ 0 ≤ v ∧ v ≤ 1000000) → rgo o p n = false) := Lib.hid fun h => rgo_no (i := k + 1) (by rw [rgo, ← hu, ← hv, decide_eq_false h, Bool.and_false]) (by omega)
      clear hu hv hs
      by_cases g1 : u < 0
      · have HN := Lib.hid (HBAD.out (by omega))
        clear HBAD
        go_wp2
        refine bodyPost_ret (v := .tuple #[.int .i64 0, .int .i64 0, .int .i64 2]) (by simp [results, Try.results39, go_sem]) rfl ?_
        exact ⟨.inl ⟨HN.out, rfl⟩, HB.out⟩
      by_cases g2 : 1000000 < u
      · have HN := Lib.hid (HBAD.out (by omega))
        have f1 : (u < 0) = False := eq_false g1
        clear HBAD g1
        go_wp2
        refine bodyPost_ret (v := .tuple #[.int .i64 0, .int .i64 0, .int .i64 2]) (by simp [results, Try.results39, go_sem]) rfl ?_
        exact ⟨.inl ⟨HN.out, rfl⟩, HB.out⟩
      by_cases g3 : v < 0
      · have HN := Lib.hid (HBAD.out (by omega))
        have f1 : (u < 0) = False := eq_false g1
        have f2 : (1000000 < u) = False := eq_false g2
        clear HBAD g1 g2
        go_wp2
        refine bodyPost_ret (v := .tuple #[.int .i64 0, .int .i64 0, .int .i64 2]) (by simp [results, Try.results39, go_sem]) rfl ?_
        exact ⟨.inl ⟨HN.out, rfl⟩, HB.out⟩
      by_cases g4 : 1000000 < v
      · have HN := Lib.hid (HBAD.out (by omega))
        have f1 : (u < 0) = False := eq_false g1
        have f2 : (1000000 < u) = False := eq_false g2
        have f3 : (v < 0) = False := eq_false g3
        clear HBAD g1 g2 g3
        go_wp2
        refine bodyPost_ret (v := .tuple #[.int .i64 0, .int .i64 0, .int .i64 2]) (by simp [results, Try.results39, go_sem]) rfl ?_
        exact ⟨.inl ⟨HN.out, rfl⟩, HB.out⟩
      have HOK : Hid (rgo o p (k + 1) = true) := Lib.hid (by rw [rgo, HRG.out, ← HU.out, ← HV.out, decide_eq_true (by omega)]; rfl)
      have hw1 : IntKind.i64.wrap (x + u) = x + u := IntWalk.i64_in _ (by omega)
      have hw2 : IntKind.i64.wrap (y + v) = y + v := IntWalk.i64_in _ (by omega)
      have HX2 : Hid (x + u = sm o (k + 1)) := Lib.hid (by rw [sm, ← HX.out, ← HU.out])
      have HY2 : Hid (y + v = sm p (k + 1)) := Lib.hid (by rw [sm, ← HY.out, ← HV.out])
      have f1 : (u < 0) = False := eq_false g1
      have f2 : (1000000 < u) = False := eq_false g2
      have f3 : (v < 0) = False := eq_false g3
      have f4 : (1000000 < v) = False := eq_false g4
      have HVZ : Hid (zr p (k + 1) = (z || v == 0)) := Lib.hid (by rw [zr, ← HZ.out, ← HV.out])
      have hv0 : (v == 0) = true ∨ (v == 0) = false := by cases v == 0 <;> simp
      clear HBAD g1 g2 g3 g4
      cases z with
      | true =>
        go_wp2
        go_roundw
        case rel => exact ⟨k + 1, x + u, y + v, true, by omega, rfl, rfl, rfl, by go_num, HX2, HY2, Lib.hid (by rw [HVZ.out]; rfl), HOK, HB⟩
        case measure => simp [intOf] <;> omega
      | false =>
        rcases hv0 with hv0 | hv0
        · rw [hv0] at HVZ
          go_wp2
          go_roundw
          case rel => exact ⟨k + 1, x + u, y + v, true, by omega, rfl, rfl, rfl, by go_num, HX2, HY2, Lib.hid (by rw [HVZ.out]; rfl), HOK, HB⟩
          case measure => simp [intOf] <;> omega
        · rw [hv0] at HVZ
          go_wp2
          go_roundw
          case rel => exact ⟨k + 1, x + u, y + v, false, by omega, rfl, rfl, rfl, by go_num, HX2, HY2, Lib.hid (by rw [HVZ.out]; rfl), HOK, HB⟩
          case measure => simp [intOf] <;> omega
    · obtain rfl : k = n := by omega
      cases z with
      | true =>
        have HZ2 : Hid (zr p k = true) := Lib.hid HZ.out.symm
        go_wp2
        refine bodyPost_ret (v := .tuple #[.int .i64 0, .int .i64 0, .int .i64 10]) (by simp [results, Try.results39, go_sem]) rfl ?_
        exact ⟨.inr (.inl ⟨HRG.out, .inl HZ2.out, rfl⟩), HB.out⟩
      | false =>
        have HZ2 : Hid (zr p k = false) := Lib.hid HZ.out.symm
        by_cases hx : x = 0
        · have f1 : (x == 0) = true := by simp [hx]
          have HX0 : Hid (sm o k = 0) := Lib.hid (by rw [← HX.out, hx])
          clear hx
          go_wp2
          refine bodyPost_ret (v := .tuple #[.int .i64 0, .int .i64 0, .int .i64 10]) (by simp [results, Try.results39, go_sem]) rfl ?_
          exact ⟨.inr (.inl ⟨HRG.out, .inr HX0.out, rfl⟩), HB.out⟩
        · have f1 : (x == 0) = false := by simp [hx]
          have HX0 : Hid (sm o k ≠ 0) := Lib.hid (by rw [← HX.out]; exact hx)
          clear hx
          go_wp2
          refine bodyPost_ret (v := .tuple #[.int .i64 x, .int .i64 y, .int .i64 0]) (by simp [results, Try.results39, go_sem]) rfl ?_
          exact ⟨.inr (.inr ⟨HRG.out, HZ2.out, HX0.out, by rw [← HX.out, ← HY.out]⟩), HB.out⟩
end Fa
end Go.Proofs.Ytiflmnmkmpjecaa
