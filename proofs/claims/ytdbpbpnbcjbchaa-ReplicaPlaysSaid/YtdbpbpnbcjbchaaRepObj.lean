/- The group of nodes as an object in memory. -/
import Derived.Test.YtdbpbpnbcjbchaaRows
import Derived.Test.YtdbpbpnbcjbchaaBase2
import Derived.Test.YtdbpbpnbcjbchaaRepSafe
set_option linter.unusedVariables false
namespace Go.Proofs.Ytdbpbpnbcjbchaa
open Go.RowKit

def Arr (w : World) (g : Nat) (t : TypeId) (M : Nat) (F : Nat → Value) : Prop := Blk w g t (row M F).toArray
theorem Arr.at_ {w : World} {g : Nat} {t : TypeId} {M k : Nat} {F : Nat → Value} (h : Arr w g t M F) (hk : k < M) : w.cell? ⟨g, k, none⟩ = some (F k) ∧ w.frozen? ⟨g, k, none⟩ = false := by
  refine ⟨?_, Blk.frozen h k⟩
  rw [Blk.cell h k, List.getElem?_toArray]; exact row_get hk
theorem Arr.put {w : World} {g : Nat} {t : TypeId} {M k : Nat} {F F' : Nat → Value} {u : Value} (h : Arr w g t M F) (hF : ∀ j, j < M → F' j = if j = k then u else F j) : Arr (w.setCell ⟨g, k, none⟩ u) g t M F' := by
  have := Blk.set_ h k u
  unfold Arr
  rw [List.setIfInBounds_toArray] at this
  rw [show row M F' = (row M F).set k u from ?_]
  · exact this
  · apply List.ext_getElem?
    intro j
    by_cases hj : j < M
    · rw [row_get hj, hF j hj, List.getElem?_set]
      by_cases e : k = j
      · subst e; rw [if_pos rfl, if_pos rfl, if_pos (by rw [row_length]; exact hj)]
      · rw [if_neg e, if_neg (fun x => e x.symm), row_get hj]
    · rw [List.getElem?_eq_none (by rw [row_length]; omega), List.getElem?_eq_none (by rw [List.length_set, row_length]; omega)]
theorem Arr.congr {w : World} {g : Nat} {t : TypeId} {M : Nat} {F F' : Nat → Value} (h : Arr w g t M F) (hF : ∀ j, j < M → F j = F' j) : Arr w g t M F' := by
  unfold Arr; rw [← row_congr hF]; exact h

namespace Rp
/-- The text of entry p. -/
def tt (l : Log) (p : Nat) : ByteArray := (l.getD p (0, ByteArray.empty)).2
def Ent (l : Log) : Nat → Value := fun j => if j % 2 = 0 then .int .i64 (ee l (j / 2) : Int) else .string (tt l (j / 2))
def Str (l : List ByteArray) : Nat → Value := fun j => .string (l.getD j ByteArray.empty)
/-- The cells of the object: the number of nodes, seven nodes of five cells, the committed texts. -/
def gcell (n : Nat) (nd : Nat → Nd) (lv : Nat → Value) (cv : Value) : Nat → Value := fun j =>
  if j = 0 then .int .i64 (n : Int) else if j = 36 then cv else if j % 5 = 1 then .bool (nd ((j - 1) / 5)).down else if j % 5 = 2 then .bool (nd ((j - 1) / 5)).cut
  else if j % 5 = 3 then .int .i64 ((nd ((j - 1) / 5)).ep : Int) else if j % 5 = 4 then .int .i64 ((nd ((j - 1) / 5)).led : Int) else lv ((j - 1) / 5)
theorem gcell_at (n : Nat) (nd : Nat → Nd) (lv : Nat → Value) (cv : Value) {i : Nat} (hi : i < 7) :
    gcell n nd lv cv (1 + i * 5) = .bool (nd i).down ∧ gcell n nd lv cv (1 + i * 5 + 1) = .bool (nd i).cut ∧ gcell n nd lv cv (1 + i * 5 + 2) = .int .i64 ((nd i).ep : Int) ∧ gcell n nd lv cv (1 + i * 5 + 3) = .int .i64 ((nd i).led : Int) ∧ gcell n nd lv cv (1 + i * 5 + 4) = lv i := by
  unfold gcell
  refine ⟨?_, ?_, ?_, ?_, ?_⟩
  · rw [if_neg (by omega), if_neg (by omega), if_pos (by omega), show (1 + i * 5 - 1) / 5 = i by omega]
  · rw [if_neg (by omega), if_neg (by omega), if_neg (by omega), if_pos (by omega), show (1 + i * 5 + 1 - 1) / 5 = i by omega]
  · rw [if_neg (by omega), if_neg (by omega), if_neg (by omega), if_neg (by omega), if_pos (by omega), show (1 + i * 5 + 2 - 1) / 5 = i by omega]
  · rw [if_neg (by omega), if_neg (by omega), if_neg (by omega), if_neg (by omega), if_neg (by omega), if_pos (by omega), show (1 + i * 5 + 3 - 1) / 5 = i by omega]
  · rw [if_neg (by omega), if_neg (by omega), if_neg (by omega), if_neg (by omega), if_neg (by omega), if_neg (by omega), show (1 + i * 5 + 4 - 1) / 5 = i by omega]
/-- The object. -/
structure Gp (B : Nat) (w : World) (h n : Nat) (s : St) (lv : Nat → Value) (cv : Value) : Prop where
  blk : Arr w h 55 37 (gcell n s.nd lv cv)
  own : ∀ i, i < 7 → w.ownsRow B 62 2 (lv i) (s.nd i).log.length (row ((s.nd i).log.length * 2) (Ent (s.nd i).log))
  cow : w.ownsRow B 9 1 cv s.done.length (row (s.done.length * 1) (Str s.done))
  dif : ∀ i j, i < 7 → j < 7 → i ≠ j → (lv i).ownBlock = none ∨ (lv i).ownBlock ≠ (lv j).ownBlock
  hB : B ≤ h
  n1 : 1 ≤ n
  n7 : n ≤ 7
  zero : ∀ i, n ≤ i → (s.nd i).log = []
  l : ∀ i, i < 7 → (s.nd i).log.length ≤ 1024
  e : ∀ i, i < 7 → (s.nd i).ep ≤ 1000000 ∧ (s.nd i).led ≤ 1000000
theorem Gp.at_ {B : Nat} {w : World} {h n : Nat} {s : St} {lv : Nat → Value} {cv : Value} (c : Gp B w h n s lv cv) {i : Nat} (hi : i < 7) :
    w.cell? ⟨h, 1 + i * 5, none⟩ = some (.bool (s.nd i).down) ∧ w.cell? ⟨h, 1 + i * 5 + 1, none⟩ = some (.bool (s.nd i).cut) ∧ w.cell? ⟨h, 1 + i * 5 + 2, none⟩ = some (.int .i64 ((s.nd i).ep : Int)) ∧ w.cell? ⟨h, 1 + i * 5 + 3, none⟩ = some (.int .i64 ((s.nd i).led : Int)) ∧ w.cell? ⟨h, 1 + i * 5 + 4, none⟩ = some (lv i) ∧ w.cell? ⟨h, 0, none⟩ = some (.int .i64 (n : Int)) ∧ w.cell? ⟨h, 36, none⟩ = some cv := by
  obtain ⟨h0, h1, h2, h3, h4⟩ := gcell_at n s.nd lv cv hi
  refine ⟨(c.blk.at_ (k := 1 + i * 5) (by omega)).1.trans (by rw [h0]), (c.blk.at_ (k := 1 + i * 5 + 1) (by omega)).1.trans (by rw [h1]), (c.blk.at_ (k := 1 + i * 5 + 2) (by omega)).1.trans (by rw [h2]), (c.blk.at_ (k := 1 + i * 5 + 3) (by omega)).1.trans (by rw [h3]), (c.blk.at_ (k := 1 + i * 5 + 4) (by omega)).1.trans (by rw [h4]), (c.blk.at_ (k := 0) (by omega)).1, (c.blk.at_ (k := 36) (by omega)).1⟩
end Rp
end Go.Proofs.Ytdbpbpnbcjbchaa
