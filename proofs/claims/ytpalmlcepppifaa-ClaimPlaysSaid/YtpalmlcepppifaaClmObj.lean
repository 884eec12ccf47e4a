/- The claims as an object in memory: the prizes, the map of tickets, the map of what is open. -/
import Derived.Test.YtpalmlcepppifaaRows
import Derived.Test.YtpalmlcepppifaaBase2
import Derived.Maps.GroupsBeside
import Derived.Maps.OwnSet
import Derived.Maps.Views
import Derived.StringKeys
set_option linter.unusedVariables false
namespace Go.Proofs.Ytpalmlcepppifaa
open Go.RowKit Go.Maps Go.ChangeShapes

/-- Prizes: amount, from, expiry, state. -/
def Four (A F E S : Nat → Int) : Nat → Value := fun j => if j % 4 = 0 then .int .i64 (A (j / 4)) else if j % 4 = 1 then .int .i64 (F (j / 4)) else if j % 4 = 2 then .int .i64 (E (j / 4)) else .int .i64 (S (j / 4))
theorem Four_at (A F E S : Nat → Int) (k : Nat) : Four A F E S (k * 4) = .int .i64 (A k) ∧ Four A F E S (k * 4 + 1) = .int .i64 (F k) ∧ Four A F E S (k * 4 + 2) = .int .i64 (E k) ∧ Four A F E S (k * 4 + 3) = .int .i64 (S k) := by
  unfold Four
  refine ⟨?_, ?_, ?_, ?_⟩
  · rw [if_pos (by omega), show k * 4 / 4 = k by omega]
  · rw [if_neg (by omega), if_pos (by omega), show (k * 4 + 1) / 4 = k by omega]
  · rw [if_neg (by omega), if_neg (by omega), if_pos (by omega), show (k * 4 + 2) / 4 = k by omega]
  · rw [if_neg (by omega), if_neg (by omega), if_neg (by omega), show (k * 4 + 3) / 4 = k by omega]
theorem row_four (m : Nat) (G : Nat → Value) : row (m + 4) G = row m G ++ [G m, G (m + 1), G (m + 2), G (m + 3)] := by
  rw [row_one (m + 3), row_three m, List.append_assoc]; rfl
theorem Cells.four {w : World} {D : Option Addr} {n : Nat} {A F E S : Nat → Int} (h : Cells w D (n * 4) (Four A F E S)) {k : Nat} (hk : k < n) :
    ∃ b off, D = some ⟨b, off, none⟩ ∧ b < w.heap.size ∧ w.cell? ⟨b, off + k * 4, none⟩ = some (.int .i64 (A k)) ∧ w.cell? ⟨b, off + k * 4 + 1, none⟩ = some (.int .i64 (F k)) ∧ w.cell? ⟨b, off + k * 4 + 2, none⟩ = some (.int .i64 (E k)) ∧ w.cell? ⟨b, off + k * 4 + 3, none⟩ = some (.int .i64 (S k)) := by
  obtain ⟨b, off, e, hlt, hc⟩ := h (by omega)
  obtain ⟨h0, h1, h2, h3⟩ := Four_at A F E S k
  exact ⟨b, off, e, hlt, (hc (k * 4) (by omega)).trans (by rw [h0]), (hc (k * 4 + 1) (by omega)).trans (by rw [h1]), (hc (k * 4 + 2) (by omega)).trans (by rw [h2]), (hc (k * 4 + 3) (by omega)).trans (by rw [h3])⟩

/-- The prizes of a ticket among the first n. -/
def idx (N : Nat → ByteArray) (s : ByteArray) : Nat → List Nat
  | 0 => []
  | n + 1 => if (N n).data.toList = s.data.toList then idx N s n ++ [n] else idx N s n
def zints (l : List Nat) : List Int := l.map fun (i : Nat) => (i : Int)
def gd (l : List Nat) : DataW Unit := if l = [] then .nil else .slice (lits .i64 (zints l)) []
/-- How many of the first n are open. -/
def cnt (S : Nat → Int) : Nat → Nat
  | 0 => 0
  | n + 1 => if S n = 0 then cnt S n + 1 else cnt S n

theorem kS : Keyed Try.prog 9 := string_keyed Try.underlying9
theorem kI : Keyed Try.prog 3 := int_keyed Try.underlying3
theorem zeroG (w : World) : (zeroValue 81).run Try.prog w = .ok (.slice none 0 0) w := by kernel_rfl

/-- The object. -/
structure Cl (B : Nat) (w : World) (h n : Nat) (N : Nat → ByteArray) (A F E S : Nat → Int) (pv : Value) (b1 b2 : Nat) (D O : DataW Unit) : Prop where
  blk : Blk w h 78 #[pv, .map (some b1), .map (some b2)]
  own : w.ownsRow B 80 4 pv n (row (n * 4) (Four A F E S))
  grp : w.ownsGroups Try.prog 9 (b1 + 1) 3 .i64 b1 n D
  opn : w.ownsMap Try.prog 3 (plainElem Try.prog 4) b2 n O
  hO : ∀ i : Nat, i < 9000 → Maps.has O (.int .i64 i) = (decide (i < n) && decide (S i = 0))
  hsz : Maps.size O = cnt S n
  hD : ∀ s : ByteArray, s.size ≤ maxLen → D.atKey (.string s.data.toList) .nil = gd (idx N s n)
  hB : B ≤ h
  hB1 : B ≤ b1
  hB2 : B ≤ b2
  ne : b1 ≠ b2
  n8 : n ≤ 8192
  st : ∀ i, i < n → 1 ≤ A i ∧ A i ≤ 1000000000000

theorem own_obj {B g : Nat} {w : World} {e : TypeId} {size : Nat} {v : Value} {n : Nat} {xs : List Value} (hown : w.ownsRow B e size v n xs) (hg : v.ownBlock = some g) : ∃ cur, w.heap[g]? = some (.cells cur e (0, 0)) := by
  rcases hown.2 with ⟨rfl, _⟩ | ⟨g', cap, cur, rfl, _, hh, _⟩
  · cases hg
  · injection hg with hg
    simp at hg
    subst hg
    exact ⟨cur, hh⟩
theorem Cl.pvh {B : Nat} {w : World} {h n : Nat} {N : Nat → ByteArray} {A F E S : Nat → Int} {pv : Value} {b1 b2 : Nat} {D O : DataW Unit} (c : Cl B w h n N A F E S pv b1 b2 D O) : pv.ownBlock ≠ some h := fun e => by
  obtain ⟨cur, hh⟩ := own_obj c.own e
  have := c.blk
  unfold Blk at this
  rw [this] at hh
  injection hh with hh
  injection hh with _ hh
  revert hh; decide
theorem map_block {w : World} {b n : Nat} {D : DataW Unit} {base : Nat} (g : w.ownsGroups Try.prog 9 base 3 .i64 b n D) : ∃ es clock, w.heap[b]? = some (.map es clock) := by
  obtain ⟨es, clock, hb, _⟩ := g; exact ⟨es, clock, hb⟩
theorem opn_block {w : World} {b n : Nat} {O : DataW Unit} (g : w.ownsMap Try.prog 3 (plainElem Try.prog 4) b n O) : ∃ es clock, w.heap[b]? = some (.map es clock) := by
  obtain ⟨es, clock, hb, _⟩ := g; exact ⟨es, clock, hb⟩
/-- A group's row is a block of ints. -/
theorem grp_rows {w : World} {b n : Nat} {D : DataW Unit} {base r : Nat} (g : w.ownsGroups Try.prog 9 base 3 .i64 b n D) (hr : ∀ cur, w.heap[r]? ≠ some (.cells cur 3 (0, 0))) :
    ∀ es clock, w.heap[b]? = some (.map es clock) → ∀ x ∈ es.toList, x.val.ownBlock = none ∨ x.val.ownBlock ≠ some r := fun es clock hb x hx => by
  obtain ⟨es', clock', hb', F, _⟩ := g
  obtain ⟨rfl, rfl⟩ : es' = es ∧ clock' = clock := by rw [hb'] at hb; simpa using hb
  cases hx' : x.val.ownBlock with
  | none => exact Or.inl rfl
  | some k =>
    refine Or.inr fun e1 => ?_
    injection e1 with e1
    subst e1
    obtain ⟨y, hy⟩ := F.reads x hx
    obtain ⟨z, hz, _⟩ := WideElems.rd_val hy
    obtain ⟨zs, ho, _⟩ := rowElem_inv hz
    obtain ⟨cur, hc⟩ := own_obj ho.1 hx'
    exact hr cur hc
end Go.Proofs.Ytpalmlcepppifaa
