/- Words shared by the walks that append: rows of cells made by the call itself. -/
import Derived.Test.YteclghokkdkolaaBase
import Derived.Deep.AppendLies
import Derived.StillTailTactics
set_option linter.unusedVariables false
namespace Go.Proofs.Yteclghokkdkolaa
open Go.RowKit

/-- The first m values of a sequence. -/
def row (m : Nat) (G : Nat → Value) : List Value := (List.range m).map G
theorem row_length (m : Nat) (G : Nat → Value) : (row m G).length = m := by simp [row]
theorem row_get {m j : Nat} {G : Nat → Value} (h : j < m) : (row m G)[j]? = some (G j) := by simp [row, h]
theorem row_zero (G : Nat → Value) : row 0 G = [] := rfl
theorem row_one (m : Nat) (G : Nat → Value) : row (m + 1) G = row m G ++ [G m] := by simp [row, List.range_succ]
theorem row_two (m : Nat) (G : Nat → Value) : row (m + 2) G = row m G ++ [G m, G (m + 1)] := by
  rw [row_one (m + 1), row_one m, List.append_assoc]; rfl
theorem row_three (m : Nat) (G : Nat → Value) : row (m + 3) G = row m G ++ [G m, G (m + 1), G (m + 2)] := by
  rw [row_one (m + 2), row_two m, List.append_assoc]; rfl
theorem row_congr {m : Nat} {G G' : Nat → Value} (h : ∀ j, j < m → G j = G' j) : row m G = row m G' := by
  unfold row
  exact List.map_congr_left fun j hj => h j (List.mem_range.1 hj)

/-- A slice of the call's own is a slice of that length. -/
theorem own_slice {w : World} {base : Nat} {e : TypeId} {size : Nat} {v : Value} {n : Nat} {xs : List Value} (h : w.ownsRow base e size v n xs) : ∃ A c, v = .slice A n c ∧ n ≤ c := by
  rcases h.2 with ⟨rfl, rfl⟩ | ⟨g, cap, cur, rfl, _, _, hc, _⟩
  · exact ⟨none, 0, rfl, Nat.le_refl _⟩
  · exact ⟨_, _, rfl, hc⟩
theorem Cells.of_own {w : World} {base : Nat} {e : TypeId} {size n c : Nat} {A : Option Addr} {G : Nat → Value} (h : w.ownsRow base e size (.slice A n c) n (row (n * size) G)) : Cells w A (n * size) G := fun h0 => by
  have hn : 0 < n := by
    rcases Nat.eq_zero_or_pos n with e0 | e0
    · subst e0; simp at h0
    · exact e0
  obtain ⟨g, cap, hv, hb, hlt⟩ := h.form hn
  injection hv with hA hn' hc
  subst hA
  refine ⟨g, 0, rfl, hlt, fun j hj => ?_⟩
  have := h.cells (g := g) rfl j (G j) (row_get hj)
  unfold Addr.add at this
  by_cases hz : j = 0
  · subst hz; simpa using this
  · rw [if_neg hz] at this; simpa using this
/-- Behind an append onto a slice of the call's own nothing older has turned. -/
theorem own_below {B : Nat} {w0 w w' : World} {e : TypeId} {size : Nat} {v : Value} {n : Nat} {xs : List Value} (h : Below B w0 w) (hown : w.ownsRow B e size v n xs) (hB : B ≤ w.heap.size) (hg : w.grownBy w' v.ownBlock) : Below B w0 w' :=
  h.grown hg hB fun k hk => (hown.lt k hk).1
/-- An own row is kept by what happens from B' on, where its block lies below. -/
theorem own_keep {B : Nat} {w w' : World} {e : TypeId} {size : Nat} {v : Value} {n : Nat} {xs : List Value} (hown : w.ownsRow B e size v n xs) (h : Below w.heap.size w w') : w'.ownsRow B e size v n xs := by
  refine ⟨hown.1, ?_⟩
  rcases hown.2 with hn | ⟨g, cap, cur, hv, hb, hg, h3⟩
  · exact .inl hn
  · refine .inr ⟨g, cap, cur, hv, hb, ?_, h3⟩
    rw [h.block g ?_]
    · exact hg
    · rcases Nat.lt_or_ge g w.heap.size with hl | hl
      · exact hl
      · rw [Array.getElem?_eq_none hl] at hg; cases hg

/-- Block g is just the cells cs of type t, none frozen. -/
def Blk (w : World) (g : Nat) (t : TypeId) (cs : Array Value) : Prop := w.heap[g]? = some (.cells cs t (0, 0))
-- OneBlk
theorem Blk.lt {w : World} {g : Nat} {t : TypeId} {cs : Array Value} (h : Blk w g t cs) : g < w.heap.size := by
  rcases Nat.lt_or_ge g w.heap.size with hl | hl
  · exact hl
  · unfold Blk at h; rw [Array.getElem?_eq_none hl] at h; cases h
theorem Blk.cell {w : World} {g : Nat} {t : TypeId} {cs : Array Value} (h : Blk w g t cs) (i : Nat) : w.cell? ⟨g, i, none⟩ = cs[i]? := by
  unfold Blk at h; simp [World.cell?, h]
theorem Blk.frozen {w : World} {g : Nat} {t : TypeId} {cs : Array Value} (h : Blk w g t cs) (i : Nat) : w.frozen? ⟨g, i, none⟩ = false := by
  unfold Blk at h; simp [World.frozen?, h]
theorem Blk.new (w : World) (t : TypeId) (cs : Array Value) : Blk (w.alloc (.cells cs t)) w.heap.size t cs := heap_alloc_new w _
theorem Blk.alloc {w : World} {g : Nat} {t : TypeId} {cs : Array Value} (h : Blk w g t cs) (o : Obj) : Blk (w.alloc o) g t cs := (Below.heap_alloc w o g h.lt).trans h
theorem Blk.drewN {w : World} {g : Nat} {t : TypeId} {cs : Array Value} (h : Blk w g t cs) (n : Nat) : Blk (w.drewN n) g t cs := h
theorem Blk.set_ {w : World} {g : Nat} {t : TypeId} {cs : Array Value} (h : Blk w g t cs) (i : Nat) (u : Value) : Blk (w.setCell ⟨g, i, none⟩ u) g t (cs.setIfInBounds i u) := by
  unfold Blk at h ⊢; simp [World.setCell, Array.getElem?_modify, h]
theorem Blk.below {w w' : World} {g B : Nat} {t : TypeId} {cs : Array Value} (h : Blk w g t cs) (hb : Below B w w') (hg : g < B) : Blk w' g t cs := (hb.block g hg).trans h
theorem Blk.keep {w w' : World} {g : Nat} {t : TypeId} {cs : Array Value} (h : Blk w g t cs) (hb : Below w.heap.size w w') : Blk w' g t cs := h.below hb h.lt
theorem Blk.grown {w w' : World} {g : Nat} {t : TypeId} {cs : Array Value} {row : Option Nat} (h : Blk w g t cs) (hb : w.grownBy w' row) (hg : some g ≠ row) : Blk w' g t cs := (hb.block g h.lt hg).trans h
/-- Only block g, and what is new, has turned. -/
theorem only_refl (w : World) (g : Nat) : w.grownBy w (some g) := ⟨rfl, rfl, rfl, Nat.le_refl _, fun _ _ _ => rfl⟩
theorem only_drewN {a w : World} {row : Option Nat} (h : a.grownBy w row) (n : Nat) : a.grownBy (w.drewN n) row := ⟨h.os, h.tape, h.output, h.size, h.block⟩
theorem only_alloc {a w : World} {row : Option Nat} (h : a.grownBy w row) (o : Obj) : a.grownBy (w.alloc o) row :=
  ⟨h.os, h.tape, h.output, Nat.le_trans h.size (by simp), fun i hi hne => (Below.heap_alloc w o i (Nat.lt_of_lt_of_le hi h.size)).trans (h.block i hi hne)⟩
theorem only_set {a w : World} {g : Nat} (h : a.grownBy w (some g)) (i : Nat) (u : Value) : a.grownBy (w.setCell ⟨g, i, none⟩ u) (some g) :=
  ⟨h.os, h.tape, h.output, by simpa [World.setCell] using h.size, fun k hk hne => (Below.heap_setCell w ⟨g, i, none⟩ u k (by rintro rfl; exact hne rfl)).trans (h.block k hk hne)⟩
theorem only_below {a w : World} {g : Nat} (h : a.grownBy w (some g)) (hg : g ≤ a.heap.size) : Below g a w :=
  ⟨h.os, h.tape, h.output, h.size, fun k hk => h.block k (by omega) (by intro e; injection e with e; omega)⟩
/-- An own row is kept where only another block has turned. -/
theorem own_only {B g : Nat} {w w' : World} {e : TypeId} {size : Nat} {v : Value} {n : Nat} {xs : List Value} (hown : w.ownsRow B e size v n xs) (h : w.grownBy w' (some g)) (hg : g < B) : w'.ownsRow B e size v n xs :=
  hown.kept h (by
    cases hv : v.ownBlock with
    | none => exact .inl rfl
    | some k => right; have := (hown.lt k hv).1; intro e; injection e with e; omega)
theorem size_drewN (w : World) (n : Nat) : (w.drewN n).heap.size = w.heap.size := rfl
theorem new_cell {w : World} {cs : Array Value} {t : TypeId} {g j : Nat} {v : Value} (hg : g = w.heap.size) (h : cs[j]? = some v) : (w.alloc (.cells cs t)).cell? ((⟨g, 0, none⟩ : Addr).add j) = some v := by
  have e : (⟨g, 0, none⟩ : Addr).add j = ⟨g, j, none⟩ := by
    unfold Addr.add
    by_cases hz : j = 0
    · subst hz; rfl
    · rw [if_neg hz, Nat.zero_add]
  rw [e, World.cell?_alloc_at _ _ _ _ hg]; exact h
/-- The kit's law on a region whose last operations are in one forced order, its world written as a draw. -/
theorem still_tail {P : Program} {id : Nat} {Q : Exit → Act → World → Prop} {a : Act} {w : World} {l : List Oper} (n : Nat) (hm : P.follows .mixedOrders = true) (hB : Region.lexTailB .any l.toArray n = true)
    (h : wpStill P l.toArray w.drew (fun a' => wpList P l.toArray Q (l.drop n) a' w.drew) (l.take n) a) : (Code.region id l.toArray true).wp P Q a w :=
  wp_region_still_tail n hm hB h
/-- A block below the base is not the row's own. -/
theorem own_off {B b : Nat} {w : World} {e : TypeId} {size : Nat} {v : Value} {n : Nat} {xs : List Value} (hown : w.ownsRow B e size v n xs) (hb : b < B) : some b ≠ v.ownBlock := fun e => by
  have := (hown.lt b e.symm).1; omega
/-- The address, if there is one, lies in a block from B on. -/
def Fresh (B : Nat) (D : Option Addr) : Prop := ∀ a, D = some a → B ≤ a.block
theorem Fresh.of_own {B : Nat} {w : World} {e : TypeId} {size n c : Nat} {D : Option Addr} {xs : List Value} (h : w.ownsRow B e size (.slice D n c) n xs) : Fresh B D := fun a ha => by
  subst ha
  exact (h.lt a.block rfl).1
theorem Fresh.mono {B B' : Nat} {D : Option Addr} (h : Fresh B D) (hb : B' ≤ B) : Fresh B' D := fun a ha => Nat.le_trans hb (h a ha)
/-- A slice elsewhere is kept by a store into block g. -/
theorem Cells.set_ {w : World} {D : Option Addr} {m : Nat} {G : Nat → Value} (h : Cells w D m G) {B g : Nat} (hf : Fresh B D) (hg : g < B) (i : Nat) (u : Value) : Cells (w.setCell ⟨g, i, none⟩ u) D m G := fun hm => by
  obtain ⟨b, off, e, hlt, hc⟩ := h hm
  have hb := hf _ e
  refine ⟨b, off, e, by simpa using hlt, fun j hj => ?_⟩
  rw [World.cell?_setCell_other w ⟨g, i, none⟩ ⟨b, off + j, none⟩ u (by intro e2; injection e2 with e3; simp at hb; omega)]
  exact hc j hj
end Go.Proofs.Yteclghokkdkolaa
