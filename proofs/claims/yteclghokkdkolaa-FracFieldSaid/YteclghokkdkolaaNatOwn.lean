/- Rows of one-cell elements of the call's own, made whole and written; the carries of sums. No statement is proved here. -/
import Derived.Test.YteclghokkdkolaaNatBase
set_option linter.unusedVariables false
namespace Go.Proofs.Yteclghokkdkolaa
open Go.RowKit

theorem row_set {m k : Nat} {F F' : Nat → Value} {u : Value} (h : ∀ j, j < m → F' j = if j = k then u else F j) : (row m F).set k u = row m F' := by
  apply List.ext_getElem?
  intro j
  by_cases hj : j < m
  · rw [row_get hj, h j hj]
    by_cases e : k = j
    · subst e; rw [List.getElem?_set_self (by rw [row_length]; exact hj), if_pos rfl]
    · rw [List.getElem?_set_ne e, row_get hj, if_neg (fun h => e h.symm)]
  · rw [List.getElem?_eq_none (by rw [List.length_set, row_length]; omega), List.getElem?_eq_none (by rw [row_length]; omega)]
theorem made_row (z : Value) (n : Nat) : (madeCells #[z] (n * 1)).toList = row (n * 1) (fun _ => z) := by
  rw [toList_madeCells_one]
  simp [row, List.map_const']
theorem made_own {w : World} {base : Nat} {e : TypeId} {v z : Value} {n : Nat} (h : w.ownsRow base e 1 v n (madeCells #[z] n).toList) : w.ownsRow base e 1 v n (row (n * 1) (fun _ => z)) := by
  rw [← made_row, Nat.mul_one]; exact h
theorem own_at {w : World} {base : Nat} {e : TypeId} {g n cap k : Nat} {F : Nat → Value} (h : w.ownsRow base e 1 (.slice (some ⟨g, 0, none⟩) n cap) n (row (n * 1) F)) (hk : k < n) :
    w.cell? ⟨g, k, none⟩ = some (F k) ∧ w.frozen? ⟨g, k, none⟩ = false :=
  ⟨(h.cellAt k (by omega)).trans (row_get (by omega)), h.frozenAt k⟩
theorem own_put {w : World} {base : Nat} {e : TypeId} {g n cap k : Nat} {F F' : Nat → Value} {u : Value} (h : w.ownsRow base e 1 (.slice (some ⟨g, 0, none⟩) n cap) n (row (n * 1) F)) (hF : ∀ j, j < n → F' j = if j = k then u else F j) :
    (w.setCell ⟨g, k, none⟩ u).ownsRow base e 1 (.slice (some ⟨g, 0, none⟩) n cap) n (row (n * 1) F') ∧ w.grownBy (w.setCell ⟨g, k, none⟩ u) (some g) := by
  have := h.stored k u
  rw [row_set (F' := F') fun j hj => hF j (by omega)] at this
  exact this
theorem own_congr {w : World} {base : Nat} {e : TypeId} {v : Value} {n : Nat} {F F' : Nat → Value} (h : w.ownsRow base e 1 v n (row (n * 1) F)) (hF : ∀ j, j < n → F j = F' j) : w.ownsRow base e 1 v n (row (n * 1) F') := by
  rw [← row_congr fun j hj => hF j (by omega)]; exact h
/-- The limbs below k are f's, the others are 0. -/
def upto (f : Nat → Nat) (k : Nat) : Nat → Nat := fun j => if j < k then f j else 0
theorem upto_next (f : Nat → Nat) (k j : Nat) : Lm (upto f (k + 1)) j = if j = k then .int .u32 (f k : Int) else Lm (upto f k) j := by
  unfold Lm upto
  by_cases e : j = k
  · subst e; rw [if_pos (by omega), if_pos rfl]
  · rw [if_neg e]
    by_cases h : j < k
    · rw [if_pos (by omega), if_pos h]
    · rw [if_neg (by omega), if_neg h]
theorem upto_at (f : Nat → Nat) (k : Nat) : upto f k k = 0 := by unfold upto; rw [if_neg (by omega)]
theorem upto_lt {f : Nat → Nat} {k j : Nat} (h : j < k) : upto f k j = f j := by unfold upto; rw [if_pos h]

def c32 (x y k : Nat) : Nat := Nt.car 4294967296 x y k
def c16 (x y k : Nat) : Nat := Nt.car 65536 x y k
theorem c32_zero (x y : Nat) : c32 x y 0 = 0 := Nt.car_zero _ x y
theorem c16_zero (x y : Nat) : c16 x y 0 = 0 := Nt.car_zero _ x y
theorem c32_le (x y k : Nat) : c32 x y k ≤ 1 := Nt.car_le (by omega) x y k
theorem c16_le (x y k : Nat) : c16 x y k ≤ 1 := Nt.car_le (by omega) x y k
theorem c32_step (x y k : Nat) : (c32 x y k : Int) + d32 x k + d32 y k = 4294967296 * c32 x y (k + 1) + d32 (x + y) k := by
  have := Nt.add_step (b := 4294967296) (by omega) x y k
  unfold c32 d32; omega
theorem c16_step (x y k : Nat) : (c16 x y k : Int) + d16 x k + d16 y k = 65536 * c16 x y (k + 1) + d16 (x + y) k := by
  have := Nt.add_step (b := 65536) (by omega) x y k
  unfold c16 d16; omega
theorem c32_top {x y n : Nat} (hx : Fit32 x n) (hy : Fit32 y n) : c32 x y n = d32 (x + y) n ∧ Fit32 (x + y) (n + 1) := Nt.car_top (by omega) hx hy
theorem c16_top {x y n : Nat} (hx : Fit16 x n) (hy : Fit16 y n) : c16 x y n = d16 (x + y) n ∧ Fit16 (x + y) (n + 1) := Nt.car_top (by omega) hx hy
theorem s32_step {x y z : Nat} (h : z + y = x) (k : Nat) :
    (d32 x k < c32 z y k + d32 y k → c32 z y (k + 1) = 1 ∧ d32 z k = d32 x k + 4294967296 - (c32 z y k + d32 y k)) ∧
    (¬ d32 x k < c32 z y k + d32 y k → c32 z y (k + 1) = 0 ∧ d32 z k = d32 x k - (c32 z y k + d32 y k)) := Nt.sub_step (b := 4294967296) (by omega) h k
theorem s16_step {x y z : Nat} (h : z + y = x) (k : Nat) :
    (d16 x k < c16 z y k + d16 y k → c16 z y (k + 1) = 1 ∧ d16 z k = d16 x k + 65536 - (c16 z y k + d16 y k)) ∧
    (¬ d16 x k < c16 z y k + d16 y k → c16 z y (k + 1) = 0 ∧ d16 z k = d16 x k - (c16 z y k + d16 y k)) := Nt.sub_step (b := 65536) (by omega) h k

def P32 (x y i : Nat) : Nat := x % 4294967296 ^ i * y
def m32 (x y i j t : Nat) : Nat := Nt.mcell 4294967296 x y i j t
def k32 (x y i j : Nat) : Nat := Nt.mcar 4294967296 x y i j
theorem P32_zero (x y : Nat) : P32 x y 0 = 0 := by simp [P32, Nat.mod_one]
theorem P32_end {x y n : Nat} (h : Fit32 x n) : P32 x y n = x * y := by unfold P32; rw [Nat.mod_eq_of_lt h]
theorem P32_fit {x y n m : Nat} (hx : Fit32 x n) (hy : Fit32 y m) : Fit32 (x * y) (n + m) := by
  have := Nt.prod_lt (b := 4294967296) (x := x) (i := n) (by omega) hy
  rw [Nat.mod_eq_of_lt hx] at this; exact this
theorem k32_zero (x y i : Nat) : k32 x y i 0 = 0 := Nt.mcar_zero (by omega) x y i
theorem k32_lt (x y i j : Nat) : k32 x y i j < 4294967296 := Nt.mcar_lt (by omega) x y i j
theorem m32_zero (x y i t : Nat) : m32 x y i 0 t = d32 (P32 x y i) t := Nt.mcell_zero (by omega) x y i t
theorem m32_old (x y i j : Nat) : m32 x y i j (i + j) = d32 (P32 x y i) (i + j) := Nt.mcell_old 4294967296 x y i j
theorem m32_lt (x y i j t : Nat) : m32 x y i j t < 4294967296 := by
  unfold m32 Nt.mcell
  split <;> exact Nt.dig_lt (by omega) _ _
theorem m32_step (x y i j : Nat) : (k32 x y i j : Int) + ((d32 x i : Int) * d32 y j + d32 (P32 x y i) (i + j)) = 4294967296 * k32 x y i (j + 1) + m32 x y i (j + 1) (i + j) := by
  have := Nt.m_step (b := 4294967296) (by omega) x y i j
  have h2 : (d32 x i : Int) * d32 y j = ((Nt.dig 4294967296 x i * Nt.dig 4294967296 y j : Nat) : Int) := by unfold d32; rw [Int.natCast_mul]
  rw [h2]
  unfold k32 m32 d32 P32; omega
theorem m32_next (x y i j t : Nat) : t ≠ i + j → m32 x y i (j + 1) t = m32 x y i j t := fun h => Nt.mcell_next (by omega) h
theorem m32_end {x y i m t : Nat} (hy : Fit32 y m) : (if t = i + m then k32 x y i m else m32 x y i m t) = d32 (P32 x y (i + 1)) t := Nt.mcell_end (by omega) hy
theorem m32_done {x y i j m t : Nat} (hy : Fit32 y m) (hj : m ≤ j) (hc : k32 x y i j = 0) : m32 x y i j t = d32 (P32 x y (i + 1)) t := Nt.mcell_done (by omega) hy hj hc
theorem k32_far {x y i j m : Nat} (hy : Fit32 y m) (hj : m < j) : k32 x y i j = 0 := Nt.mcar_far (by omega) hy hj
theorem prod32 (x y i j : Nat) : 0 ≤ (d32 x i : Int) * d32 y j ∧ (d32 x i : Int) * d32 y j ≤ 18446744065119617025 := by
  have h1 := d32_lt x i
  have h2 := d32_lt y j
  refine ⟨Int.mul_nonneg (by omega) (by omega), ?_⟩
  have : (d32 x i : Int) * d32 y j ≤ 4294967295 * 4294967295 := Int.mul_le_mul (by omega) (by omega) (by omega) (by omega)
  omega

def P16 (x y i : Nat) : Nat := x % 65536 ^ i * y
def m16 (x y i j t : Nat) : Nat := Nt.mcell 65536 x y i j t
def k16 (x y i j : Nat) : Nat := Nt.mcar 65536 x y i j
theorem P16_zero (x y : Nat) : P16 x y 0 = 0 := by simp [P16, Nat.mod_one]
theorem P16_end {x y n : Nat} (h : Fit16 x n) : P16 x y n = x * y := by unfold P16; rw [Nat.mod_eq_of_lt h]
theorem P16_fit {x y n m : Nat} (hx : Fit16 x n) (hy : Fit16 y m) : Fit16 (x * y) (n + m) := by
  have := Nt.prod_lt (b := 65536) (x := x) (i := n) (by omega) hy
  rw [Nat.mod_eq_of_lt hx] at this; exact this
theorem k16_zero (x y i : Nat) : k16 x y i 0 = 0 := Nt.mcar_zero (by omega) x y i
theorem k16_lt (x y i j : Nat) : k16 x y i j < 65536 := Nt.mcar_lt (by omega) x y i j
theorem m16_zero (x y i t : Nat) : m16 x y i 0 t = d16 (P16 x y i) t := Nt.mcell_zero (by omega) x y i t
theorem m16_old (x y i j : Nat) : m16 x y i j (i + j) = d16 (P16 x y i) (i + j) := Nt.mcell_old 65536 x y i j
theorem m16_lt (x y i j t : Nat) : m16 x y i j t < 65536 := by
  unfold m16 Nt.mcell
  split <;> exact Nt.dig_lt (by omega) _ _
theorem m16_step (x y i j : Nat) : (k16 x y i j : Int) + ((d16 x i : Int) * d16 y j + d16 (P16 x y i) (i + j)) = 65536 * k16 x y i (j + 1) + m16 x y i (j + 1) (i + j) := by
  have := Nt.m_step (b := 65536) (by omega) x y i j
  have h2 : (d16 x i : Int) * d16 y j = ((Nt.dig 65536 x i * Nt.dig 65536 y j : Nat) : Int) := by unfold d16; rw [Int.natCast_mul]
  rw [h2]
  unfold k16 m16 d16 P16; omega
theorem m16_next (x y i j t : Nat) : t ≠ i + j → m16 x y i (j + 1) t = m16 x y i j t := fun h => Nt.mcell_next (by omega) h
theorem m16_end {x y i m t : Nat} (hy : Fit16 y m) : (if t = i + m then k16 x y i m else m16 x y i m t) = d16 (P16 x y (i + 1)) t := Nt.mcell_end (by omega) hy
theorem m16_done {x y i j m t : Nat} (hy : Fit16 y m) (hj : m ≤ j) (hc : k16 x y i j = 0) : m16 x y i j t = d16 (P16 x y (i + 1)) t := Nt.mcell_done (by omega) hy hj hc
theorem k16_far {x y i j m : Nat} (hy : Fit16 y m) (hj : m < j) : k16 x y i j = 0 := Nt.mcar_far (by omega) hy hj
theorem prod16 (x y i j : Nat) : 0 ≤ (d16 x i : Int) * d16 y j ∧ (d16 x i : Int) * d16 y j ≤ 4294836225 := by
  have h1 := d16_lt x i
  have h2 := d16_lt y j
  refine ⟨Int.mul_nonneg (by omega) (by omega), ?_⟩
  have : (d16 x i : Int) * d16 y j ≤ 65535 * 65535 := Int.mul_le_mul (by omega) (by omega) (by omega) (by omega)
  omega

/-- A number as the result of a function that may overflow. -/
def NatRes (B : Nat) (w' : World) (e : Ending) (N : Nat) : Prop :=
  (L32 N ≤ 64 ∧ ∃ D c, e = .returned (.tuple #[natv D (L32 N) c, .int .i64 0]) ∧ L32 N ≤ c ∧ Cells w' D (L32 N) (Lm (d32 N)) ∧ Fresh B D) ∨
  (64 < L32 N ∧ e = .returned (.tuple #[natv none 0 0, .int .i64 9]))
theorem fresh_none {B : Nat} : Fresh B none := fun a h => by cases h
theorem Fresh.same {B : Nat} {D D' : Option Addr} (h : Fresh B D) (e : D' = none ∨ D' = D) : Fresh B D' := by
  rcases e with rfl | rfl
  · exact fresh_none
  · exact h
theorem Cells.of_same {w w1 w2 : World} {D D' : Option Addr} {m l : Nat} {G : Nat → Value} (h : Cells w D m G) (hl : l ≤ m) (hc : Cells w1 D' l G) (e : D' = none ∨ D' = D) (hb : Below w.heap.size w w2) : Cells w2 D' l G := by
  rcases e with rfl | rfl
  · intro h0
    obtain ⟨b, off, e, _⟩ := hc h0
    cases e
  · exact (h.below hb).sub hl
end Go.Proofs.Yteclghokkdkolaa
