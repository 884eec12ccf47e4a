/- The examples of the chapter on debts: awake returns true. -/
import Derived.Test.YtjjilnipmoanlaaDebtRef
set_option linter.unusedVariables false
namespace Go.Proofs.Ytjjilnipmoanlaa
open Go.RowKit

def taxOffice : ByteArray := ⟨#[116, 97, 120, 45, 111, 102, 102, 105, 99, 101]⟩
def court : ByteArray := ⟨#[99, 111, 117, 114, 116]⟩
def seqS (x y : ByteArray) (i : Nat) : ByteArray := if i = 0 then x else y
def seqI (x y : Int) (i : Nat) : Int := if i = 0 then x else y
theorem example_any (w : World) : Calls Try.prog 47 #[] w fun e w' => ∃ D, e = .returned (.slice D 2 2) ∧ Cells w' D (2 * 3) (Three (seqS taxOffice court) (seqI 1 2) (seqI 100 50)) ∧ Below w.heap.size w w' := by
  go_enter Try.func47, Try.ntmps47
  go_wp2
  go_ret
  refine ⟨_, rfl, Cells.lit rfl fun j hj => ?_, Below.step (Below.refl _ _) (Nat.le_refl _) _⟩
  match j, hj with
  | 0, _ => rfl
  | 1, _ => rfl
  | 2, _ => rfl
  | 3, _ => rfl
  | 4, _ => rfl
  | 5, _ => rfl
theorem exC (i : Nat) (_ : i < 2) : (seqS taxOffice court i).size ≤ maxLen := by
  unfold seqS; split <;> decide
theorem ex_chk : Db.chk (seqS taxOffice court) (seqI 1 2) (seqI 100 50) 2 = 0 := by decide +kernel

theorem offset_at {D : Option Addr} {n c : Nat} {C : Nat → ByteArray} {R A G : Nat → Int} {a l : Int} {w : World} (hn : n ≤ 9223372036854775807) (h : Cells w D (n * 3) (Three C R A)) (hC : ∀ i, i < n → (C i).size ≤ maxLen) (hy : Db.chk C R A n = 0) (h0 : 0 ≤ a) (h1 : a ≤ 1000000000000) (hl : Db.left A a n = l) (hG : ∀ i, i < n → Db.get A a i = G i) :
    Calls Try.prog 27 #[.slice D n c, .int .i64 a] w fun e w' => ∃ D' c', e = .returned (.tuple #[.slice D' n c', .int .i64 l, .int .i64 0]) ∧ Cells w' D' (n * 1) (Ints G) ∧ Below w.heap.size w w' := by
  subst hl
  refine (offset_ok hn h hC hy h0 h1).mono ?_
  rintro e w' ⟨D', c', he, hc, hb⟩
  refine ⟨D', c', he, fun hm => ?_, hb⟩
  obtain ⟨b, off, e1, hlt, hcell⟩ := hc hm
  exact ⟨b, off, e1, hlt, fun j hj => by rw [hcell j hj]; unfold Ints; rw [hG j (by omega)]⟩

set_option maxHeartbeats 1000000 in
set_option maxRecDepth 100000 in
theorem awake46 (w : World) : Calls Try.prog 26 #[] w fun e w' => e = .returned (.bool true) ∧ Below w.heap.size w w' := by
  go_enter Try.func26, Try.ntmps26
  go_wp2_with fail
  refine (example_any _).mono ?_
  rintro e w1 ⟨D1, rfl, hc1, hb⟩
  go_wp2_with fail
  refine (offset_at (G := seqI 100 20) (l := 0) (by omega) hc1 exC ex_chk (by omega) (by omega) (by decide) (fun i hi => by match i, hi with | 0, _ => decide | 1, _ => decide)).mono ?_
  rintro e w2 ⟨D2, c2, rfl, hc2, hb2⟩
  replace hb := Below.on hb hb2
  clear hb2 hc1
  go_wp2_with fail
  refine (example_any _).mono ?_
  rintro e w3 ⟨D3, rfl, hc3, hb3⟩
  replace hb := Below.on hb hb3
  replace hc2 := hc2.below hb3
  clear hb3
  go_wp2_with fail
  refine (reduce_any (P := seqI 100 20) (by omega) (hc3.alloc _) exC ex_chk (Cells.lit rfl fun j hj => by match j, hj with | 0, _ => rfl | 1, _ => rfl)).mono ?_
  rintro e w4 ⟨hb4, ⟨_, D4, c4, rfl, hc4⟩ | ⟨hno, _⟩⟩
  case inr => exact absurd hno (by decide)
  replace hb := Below.on (Below.step hb (Nat.le_refl _) (.cells #[.int .i64 100, .int .i64 20] 3)) hb4
  replace hc2 := (hc2.alloc (.cells #[.int .i64 100, .int .i64 20] 3)).below hb4
  clear hb4 hc3
  go_wp2_with fail
  refine (example_any _).mono ?_
  rintro e w5 ⟨D5, rfl, hc5, hb5⟩
  replace hb := Below.on hb hb5
  replace hc2 := hc2.below hb5
  replace hc4 := hc4.below hb5
  clear hb5
  go_wp2_with fail
  refine (offset_at (G := seqI 100 50) (l := 50) (by omega) hc5 exC ex_chk (by omega) (by omega) (by decide) (fun i hi => by match i, hi with | 0, _ => decide | 1, _ => decide)).mono ?_
  rintro e w6 ⟨D6, c6, rfl, hc6, hb6⟩
  replace hb := Below.on hb hb6
  replace hc2 := hc2.below hb6
  replace hc4 := hc4.below hb6
  clear hb6 hc6 hc5
  go_wp2_with fail
  refine (same_yes (G := seqI 100 20) (by omega) (hc2.alloc _) (Cells.lit rfl fun j hj => by match j, hj with | 0, _ => rfl | 1, _ => rfl)).mono ?_
  rintro e w7 ⟨rfl, hb7⟩
  replace hb := Below.on (Below.step hb (Nat.le_refl _) (.cells #[.int .i64 100, .int .i64 20] 3)) hb7
  replace hc4 := (hc4.alloc (.cells #[.int .i64 100, .int .i64 20] 3)).below hb7
  clear hb7 hc2
  have hcnt : Db.cnt (seqI 100 50) (seqI 100 20) 2 = 1 := by decide
  rw [hcnt] at hc4 ⊢
  go_wp2_with fail
  refine (Same_yes (C := fun j => seqS taxOffice court (Db.sel (seqI 100 50) (seqI 100 20) 2 j)) (by omega) (hc4.alloc _) (Cells.lit rfl fun j hj => by match j, hj with | 0, _ => rfl | 1, _ => rfl | 2, _ => rfl)).mono ?_
  rintro e w8 ⟨rfl, hb8⟩
  replace hb := Below.on (Below.step hb (Nat.le_refl _) _) hb8
  clear hb8 hc4
  go_wp2_with fail
  refine (example_any _).mono ?_
  rintro e w9 ⟨D9, rfl, hc9, hb9⟩
  replace hb := Below.on hb hb9
  clear hb9
  go_wp2_with fail
  refine (dcheck_at (y := 0) (by omega) hc9 exC ex_chk).mono ?_
  rintro e w10 ⟨rfl, hb10⟩
  replace hb := Below.on hb hb10
  clear hb10
  go_wp2
  go_ret
  exact ⟨rfl, hb⟩
end Go.Proofs.Ytjjilnipmoanlaa
