/- What the claims' maps read as, in plain words. -/
import Derived.Test.YtpalmlcepppifaaClmKeep
set_option linter.unusedVariables false
namespace Go.Proofs.Ytpalmlcepppifaa
open Go.RowKit Go.Maps Go.ChangeShapes Go.WideElems Go.WideMaps

def upd {α : Type} (G : Nat → α) (n : Nat) (a : α) : Nat → α := fun i => if i = n then a else G i
theorem upd_same {α : Type} (G : Nat → α) (n : Nat) (a : α) : upd G n a n = a := if_pos rfl
theorem upd_ne {α : Type} (G : Nat → α) {n i : Nat} (a : α) (h : i ≠ n) : upd G n a i = G i := if_neg h
theorem idx_congr {N N' : Nat → ByteArray} {s : ByteArray} : ∀ {n : Nat}, (∀ i, i < n → N i = N' i) → idx N s n = idx N' s n := by
  intro n
  induction n with
  | zero => intro _; rfl
  | succ n ih =>
    intro h
    simp only [idx]
    rw [ih (fun i hi => h i (by omega)), h n (by omega)]
theorem cnt_congr {S S' : Nat → Int} : ∀ {n : Nat}, (∀ i, i < n → S i = S' i) → cnt S n = cnt S' n := by
  intro n
  induction n with
  | zero => intro _; rfl
  | succ n ih =>
    intro h
    simp only [cnt]
    rw [ih (fun i hi => h i (by omega)), h n (by omega)]
theorem idx_lt {N : Nat → ByteArray} {s : ByteArray} {n i : Nat} (h : i ∈ idx N s n) : i < n := by
  induction n with
  | zero => cases h
  | succ n ih =>
    simp only [idx] at h
    split at h
    · rcases List.mem_append.1 h with h | h
      · have := ih h; omega
      · simp at h; omega
    · have := ih h; omega
theorem idx_len (N : Nat → ByteArray) (s : ByteArray) (n : Nat) : (idx N s n).length ≤ n := by
  induction n with
  | zero => exact Nat.le_refl _
  | succ n ih =>
    simp only [idx]
    split
    · simp; omega
    · omega
theorem lits_inj {a b : List Int} (h : lits (H := Unit) .i64 a = lits .i64 b) : a = b := by
  unfold lits at h
  exact (List.map_inj_right (fun x y hxy => by injection hxy with hxy; injection hxy)).1 h
theorem zs_eq {w : World} {base : Nat} {v : Value} {zs : List Int} {l : List Nat} (ho : w.ownsInts base 3 .i64 v zs) (h : rowDatum (H := Unit) .i64 v zs = gd l) : zs = zints l := by
  unfold gd at h
  rcases ho.datum (H := Unit) with ⟨h1, rfl⟩ | h1
  · rw [h1] at h
    by_cases e : l = []
    · subst e; rfl
    · rw [if_neg e] at h; cases h
  · rw [h1] at h
    by_cases e : l = []
    · rw [if_pos e] at h; cases h
    · rw [if_neg e] at h
      injection h with h
      exact lits_inj h
theorem is_map {w : World} {base b n : Nat} {D : DataW Unit} (g : w.ownsGroups Try.prog 9 base 3 .i64 b n D) : IsMap D := by
  obtain ⟨es, clock, _, _, _, rfl, _⟩ := g
  exact ⟨_, rfl⟩
/-- The groups behind one more prize. -/
theorem put_gd {D : DataW Unit} {N : Nat → ByteArray} {n : Nat} {s : ByteArray} (hm : IsMap D) (hD : ∀ s : ByteArray, s.size ≤ maxLen → D.atKey (.string s.data.toList) .nil = gd (idx N s n)) {d : DataW Unit} (hd : d = .slice (lits .i64 (zints (idx N s n) ++ [(n : Int)])) []) :
    ∀ s2 : ByteArray, s2.size ≤ maxLen → (D.put (.string s.data.toList) d).atKey (.string s2.data.toList) .nil = gd (idx (upd N n s) s2 (n + 1)) := by
  intro s2 h2
  have hi : idx (upd N n s) s2 n = idx N s2 n := idx_congr fun i hi => upd_ne _ _ (by omega)
  by_cases e : s2.data.toList = s.data.toList
  · rw [e, atKey_put_same hm (by unfold WideAt.IsKeyLit; trivial)]
    simp only [idx]
    rw [upd_same, if_pos e.symm, hi, hd]
    have : idx N s2 n = idx N s n := by
      clear hD hd hi
      induction n with
      | zero => rfl
      | succ n ih => simp only [idx]; rw [ih, e]
    rw [this]
    unfold gd
    rw [if_neg (by simp)]
    simp [zints]
  · rw [atKey_put_other (by intro e2; injection e2 with e2; exact e e2), hD s2 h2]
    simp only [idx]
    rw [upd_same, if_neg (fun e2 => e e2.symm), hi]

/-- What is neither the claims', nor a prize's, nor a group's row is kept. -/
def Kp (w w' : World) : Prop := ∀ (b : Nat) (cs : Array Value) (t : TypeId), t ≠ 78 → t ≠ 80 → t ≠ 3 → w.heap[b]? = some (.cells cs t (0, 0)) → w'.heap[b]? = some (.cells cs t (0, 0))
theorem Kp.refl (w : World) : Kp w w := fun _ _ _ _ _ _ h => h
theorem Kp.trans {w w1 w2 : World} (h : Kp w w1) (k : Kp w1 w2) : Kp w w2 := fun b cs t h1 h2 h3 hb => k b cs t h1 h2 h3 (h b cs t h1 h2 h3 hb)
theorem Kp.below {w w1 : World} (h : Below w.heap.size w w1) : Kp w w1 := fun b cs t _ _ _ hb => (h.block b (Array.getElem?_eq_some_iff.1 hb).1).trans hb
theorem Kp.only {w w1 : World} {r : Option Nat} (hg : w.grownBy w1 r) (hr : ∀ j, r = some j → ∀ cs t, w.heap[j]? = some (.cells cs t (0, 0)) → t = 78 ∨ t = 80 ∨ t = 3) : Kp w w1 := fun b cs t h1 h2 h3 hb => by
  refine (hg.block b (Array.getElem?_eq_some_iff.1 hb).1 fun e => ?_).trans hb
  rcases hr b e.symm cs t hb with h | h | h
  · exact h1 h
  · exact h2 h
  · exact h3 h
end Go.Proofs.Ytpalmlcepppifaa
