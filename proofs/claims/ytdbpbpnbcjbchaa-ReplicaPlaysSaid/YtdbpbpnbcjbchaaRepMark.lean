/- A mark of a node turns: a store into the object. -/
import Derived.Test.YtdbpbpnbcjbchaaRepRead
set_option linter.unusedVariables false
namespace Go.Proofs.Ytdbpbpnbcjbchaa
open Go.RowKit
namespace Rp
theorem own_obj {B g : Nat} {w : World} {e : TypeId} {size : Nat} {v : Value} {n : Nat} {xs : List Value} (hown : w.ownsRow B e size v n xs) (hg : v.ownBlock = some g) : ∃ cur, w.heap[g]? = some (.cells cur e (0, 0)) := by
  rcases hown.2 with ⟨rfl, _⟩ | ⟨g', cap, cur, rfl, _, hh, _⟩
  · cases hg
  · injection hg with hg
    simp at hg
    subst hg
    exact ⟨cur, hh⟩
theorem own_ne {B : Nat} {w : World} {h n : Nat} {s : St} {lv : Nat → Value} {cv : Value} (c : Gp B w h n s lv cv) : (∀ i, i < 7 → (lv i).ownBlock ≠ some h) ∧ cv.ownBlock ≠ some h := by
  have hb := c.blk
  unfold Arr Blk at hb
  refine ⟨fun i hi e => ?_, fun e => ?_⟩
  · obtain ⟨cur, hh⟩ := own_obj (c.own i hi) e
    rw [hb] at hh
    injection hh with hh
    injection hh with _ hh
    revert hh; decide
  · obtain ⟨cur, hh⟩ := own_obj c.cow e
    rw [hb] at hh
    injection hh with hh
    injection hh with _ hh
    revert hh; decide
theorem own_put {B g : Nat} {w : World} {e : TypeId} {size : Nat} {v : Value} {n : Nat} {xs : List Value} (hown : w.ownsRow B e size v n xs) (hv : v.ownBlock ≠ some g) (i : Nat) (u : Value) : (w.setCell ⟨g, i, none⟩ u).ownsRow B e size v n xs :=
  hown.kept (only_set (only_refl w g) i u) (by
    cases hk : v.ownBlock with
    | none => exact .inl rfl
    | some k => right; intro e; rw [hk] at hv; exact hv e)
/-- One node becomes another. -/
def setN (s : St) (i : Nat) (d : Nd) : St := ⟨fun k => if k = i then d else s.nd k, s.done⟩
theorem setN_at (s : St) (i : Nat) (d : Nd) : (setN s i d).nd i = d := if_pos rfl
theorem setN_ne (s : St) {i k : Nat} (d : Nd) (h : k ≠ i) : (setN s i d).nd k = s.nd k := if_neg h
theorem Gp.put {B : Nat} {w : World} {h n : Nat} {s : St} {lv : Nat → Value} {cv : Value} (c : Gp B w h n s lv cv) {i k : Nat} (hi : i < 7) {u : Value} {d : Nd} (hl : d.log = (s.nd i).log) (he : d.ep ≤ 1000000 ∧ d.led ≤ 1000000)
    (hu : ∀ j, j < 37 → gcell n (setN s i d).nd lv cv j = if j = 1 + i * 5 + k then u else gcell n s.nd lv cv j) : Gp B (w.setCell ⟨h, 1 + i * 5 + k, none⟩ u) h n (setN s i d) lv cv := by
  obtain ⟨hne, hnc⟩ := own_ne c
  have hlog : ∀ k, ((setN s i d).nd k).log = (s.nd k).log := fun k => by
    by_cases e : k = i
    · subst e; rw [setN_at, hl]
    · rw [setN_ne s d e]
  refine ⟨c.blk.put hu, fun j hj => ?_, own_put c.cow hnc _ _, c.dif, c.hB, c.n1, c.n7, fun j hj => ?_, fun j hj => ?_, fun j hj => ?_⟩
  · rw [hlog j]; exact own_put (c.own j hj) (hne j hj) _ _
  · rw [hlog j]; exact c.zero j hj
  · rw [hlog j]; exact c.l j hj
  · by_cases e : j = i
    · subst e; rw [setN_at]; exact he
    · rw [setN_ne s d e]; exact c.e j hj
theorem gcell_set (n : Nat) (s : St) (lv : Nat → Value) (cv : Value) {i k : Nat} {u : Value} {d : Nd} (hi : i < 7) (hk : k < 4)
    (h0 : Value.bool d.down = if k = 0 then u else .bool (s.nd i).down) (h1 : Value.bool d.cut = if k = 1 then u else .bool (s.nd i).cut)
    (h2 : Value.int .i64 (d.ep : Int) = if k = 2 then u else .int .i64 ((s.nd i).ep : Int)) (h3 : Value.int .i64 (d.led : Int) = if k = 3 then u else .int .i64 ((s.nd i).led : Int)) :
    ∀ j, j < 37 → gcell n (setN s i d).nd lv cv j = if j = 1 + i * 5 + k then u else gcell n s.nd lv cv j := fun j hj => by
  by_cases e0 : j = 0
  · subst e0; rw [if_neg (by omega)]; rfl
  by_cases e6 : j = 36
  · subst e6; rw [if_neg (by omega)]; rfl
  by_cases ei : (j - 1) / 5 = i
  · have hm : j = 1 + i * 5 ∨ j = 1 + i * 5 + 1 ∨ j = 1 + i * 5 + 2 ∨ j = 1 + i * 5 + 3 ∨ j = 1 + i * 5 + 4 := by omega
    obtain ⟨a0, a1, a2, a3, a4⟩ := gcell_at n s.nd lv cv hi
    obtain ⟨b0, b1, b2, b3, b4⟩ := gcell_at n (setN s i d).nd lv cv hi
    rw [setN_at] at b0 b1 b2 b3
    rcases hm with rfl | rfl | rfl | rfl | rfl
    · rw [b0, a0, h0]; by_cases e : k = 0
      · subst e; rw [if_pos rfl, if_pos (by omega)]
      · rw [if_neg e, if_neg (by omega)]
    · rw [b1, a1, h1]; by_cases e : k = 1
      · subst e; rw [if_pos rfl, if_pos rfl]
      · rw [if_neg e, if_neg (by omega)]
    · rw [b2, a2, h2]; by_cases e : k = 2
      · subst e; rw [if_pos rfl, if_pos rfl]
      · rw [if_neg e, if_neg (by omega)]
    · rw [b3, a3, h3]; by_cases e : k = 3
      · subst e; rw [if_pos rfl, if_pos rfl]
      · rw [if_neg e, if_neg (by omega)]
    · rw [b4, a4, if_neg (by omega)]
  · rw [if_neg (by omega)]
    unfold gcell
    rw [setN_ne s d ei]
end Rp
end Go.Proofs.Ytdbpbpnbcjbchaa
