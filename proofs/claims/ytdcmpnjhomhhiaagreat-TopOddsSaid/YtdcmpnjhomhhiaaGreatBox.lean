/- Words for boxes: blocks of one cell, kept over calls, allocs and stores. No statement is proved here. -/
import Derived.Test.YtdcmpnjhomhhiaaGreatG1
set_option linter.unusedVariables false
namespace Go.Proofs.YtdcmpnjhomhhiaaGreat
open Go.RowKit

theorem Blk.new' {w : World} {g : Nat} {t : TypeId} {cs : Array Value} (h : g = w.heap.size) : Blk (w.alloc (.cells cs t)) g t cs := by
  subst h; exact Blk.new w t cs
theorem Blk.put {w : World} {g : Nat} {t : TypeId} {a : Value} (h : Blk w g t #[a]) (u : Value) : Blk (w.setCell ⟨g, 0, none⟩ u) g t #[u] := h.set_ 0 u
theorem Blk.other {w : World} {g g' i : Nat} {t : TypeId} {cs : Array Value} (h : Blk w g' t cs) (hne : g' ≠ g) (u : Value) : Blk (w.setCell ⟨g, i, none⟩ u) g' t cs :=
  h.grown (only_set (only_refl w g) i u) (by intro e; injection e with e; exact hne e)
/-- A slice that was there before block g is kept by a store into block g. -/
theorem Cells.set_new {w0 w : World} {D : Option Addr} {m : Nat} {G : Nat → Value} (h : Cells w D m G) (h0 : Cells w0 D m G) {g : Nat} (hg : w0.heap.size ≤ g) (i : Nat) (u : Value) : Cells (w.setCell ⟨g, i, none⟩ u) D m G := fun hm => by
  obtain ⟨b, off, e, hlt, hc⟩ := h hm
  obtain ⟨b', off', e', hlt', _⟩ := h0 hm
  rw [e] at e'
  injection e' with e'
  injection e' with e1 e2
  refine ⟨b, off, e, by simpa using hlt, fun j hj => ?_⟩
  rw [World.cell?_setCell_other w ⟨g, i, none⟩ ⟨b, off + j, none⟩ u (by intro e2; injection e2 with e3; omega)]
  exact hc j hj
/-- The address, if there is one, lies in another block than g. -/
def Apart (g : Nat) (D : Option Addr) : Prop := ∀ a, D = some a → a.block ≠ g
theorem Apart.of_fresh {g B : Nat} {D : Option Addr} (h : Fresh B D) (hg : g < B) : Apart g D := fun a ha => by have := h a ha; omega
theorem Apart.none {g : Nat} : Apart g Option.none := fun a ha => by cases ha
theorem Cells.apart {w : World} {D : Option Addr} {m : Nat} {G : Nat → Value} (h : Cells w D m G) {g : Nat} (ha : Apart g D) (i : Nat) (u : Value) : Cells (w.setCell ⟨g, i, Option.none⟩ u) D m G := fun hm => by
  obtain ⟨b, off, e, hlt, hc⟩ := h hm
  have hb := ha _ e
  refine ⟨b, off, e, by simpa using hlt, fun j hj => ?_⟩
  rw [World.cell?_setCell_other w ⟨g, i, Option.none⟩ ⟨b, off + j, Option.none⟩ u (by intro e2; injection e2 with e3; exact hb e3.symm)]
  exact hc j hj
/-- The same, where the slice is not empty. -/
def Off (g : Nat) (D : Option Addr) (m : Nat) : Prop := 0 < m → Apart g D
theorem Off.of_fresh {g B m : Nat} {D : Option Addr} (h : Fresh B D) (hg : g < B) : Off g D m := fun _ => Apart.of_fresh h hg
theorem Off.of_cells {w : World} {g m : Nat} {D : Option Addr} {G : Nat → Value} (h : Cells w D m G) (hg : w.heap.size ≤ g) : Off g D m := fun hm a ha => by
  obtain ⟨b, off, e, hlt, _⟩ := h hm
  rw [e] at ha
  injection ha with ha
  subst ha
  show b ≠ g
  omega
theorem Cells.off {w : World} {D : Option Addr} {m : Nat} {G : Nat → Value} (h : Cells w D m G) {g : Nat} (ha : Off g D m) (i : Nat) (u : Value) : Cells (w.setCell ⟨g, i, Option.none⟩ u) D m G := fun hm => h.apart (ha hm) i u hm
theorem Cells.grown {w w' : World} {D : Option Addr} {m : Nat} {G : Nat → Value} (h : Cells w D m G) {g : Nat} (ha : Apart g D) (hg : w.grownBy w' (some g)) : Cells w' D m G := fun hm => by
  obtain ⟨b, off, e, hlt, hc⟩ := h hm
  have hb := ha _ e
  refine ⟨b, off, e, Nat.lt_of_lt_of_le hlt hg.size, fun j hj => ?_⟩
  have h1 := hc j hj
  unfold World.cell? at h1 ⊢
  rw [hg.block b hlt (by intro e2; injection e2 with e2; exact hb e2)]
  exact h1
end Go.Proofs.YtdcmpnjhomhhiaaGreat
