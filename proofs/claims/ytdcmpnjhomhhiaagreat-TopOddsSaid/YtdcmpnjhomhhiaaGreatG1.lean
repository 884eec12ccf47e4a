/- Several texts in one. -/
import Derived.WalkKit
import Derived.ProofKit
import Derived.Lib.Hide
import Derived.Deep.QuietTactic
import Derived.BigQuiet
import Derived.OpenShut
import Derived.ShutString
import Derived.ChangeOld
import Derived.Below
import Derived.WalkSpells
import Derived.Deep.DeepMust
import Derived.WalkSmall
import Derived.Deep.AppendLies
import Derived.StillTailTactics
import Derived.Test.YtdcmpnjhomhhiaaGreatProg
import Derived.Deep.DeepCutAuto
/- Words shared by all the walks: a slice that reads as cells, kept over new memory. No statement is proved here. -/
namespace Go.Proofs.YtdcmpnjhomhhiaaGreat
open Go.RowKit

theorem pick {α : Type} [Inhabited α] {n : Nat} {P : Nat → α → Prop} (h : ∀ i, i < n → ∃ x, P i x) : ∃ f : Nat → α, ∀ i, i < n → P i (f i) :=
  ⟨fun i => if h' : i < n then (h i h').choose else default, fun i hi => by
    show P i (if h' : i < n then (h i h').choose else default)
    rw [dif_pos hi]
    exact (h i hi).choose_spec⟩

/-- The slice with address A reads as m cells, cell j holds G j. -/
def Cells (w : World) (A : Option Addr) (m : Nat) (G : Nat → Value) : Prop :=
  0 < m → ∃ b off, A = some ⟨b, off, none⟩ ∧ b < w.heap.size ∧ ∀ j, j < m → w.cell? ⟨b, off + j, none⟩ = some (G j)

theorem Cells.below {w w' : World} {A : Option Addr} {m : Nat} {G : Nat → Value} (h : Cells w A m G) (hb : Below w.heap.size w w') : Cells w' A m G := fun hm => by
  obtain ⟨b, off, e, hlt, hc⟩ := h hm
  exact ⟨b, off, e, Nat.lt_of_lt_of_le hlt hb.size, fun j hj => (hb.cell (p := ⟨b, off + j, none⟩) hlt).trans (hc j hj)⟩
theorem Cells.nil {w : World} {A : Option Addr} {G : Nat → Value} : Cells w A 0 G := fun h => absurd h (by omega)
theorem Cells.sub {w : World} {A : Option Addr} {m m' : Nat} {G : Nat → Value} (h : Cells w A m G) (hm : m' ≤ m) : Cells w A m' G := fun h0 => by
  obtain ⟨b, off, e, hlt, hc⟩ := h (by omega)
  exact ⟨b, off, e, hlt, fun j hj => hc j (by omega)⟩

theorem Cells.mk_ {W : World} {a : Addr} {m : Nat} {G : Nat → Value} (h : ∀ j, j < m → W.cell? (a.add j) = some (G j)) : Cells W (some a) m G := fun h0 => by
  have h1 := h 0 h0
  have e0 : a.add 0 = a := rfl
  rw [e0] at h1
  have hs := World.cell?_spot h1
  obtain ⟨b, off, spot⟩ := a
  subst hs
  refine ⟨b, off, rfl, ?_, fun j hj => ?_⟩
  · rcases Nat.lt_or_ge b W.heap.size with hl | hg
    · exact hl
    · unfold World.cell? at h1
      rw [Array.getElem?_eq_none hg] at h1
      cases h1
  · have := h j hj
    have e : (Addr.mk b off none).add j = ⟨b, off + j, none⟩ := by
      unfold Addr.add
      by_cases hz : j = 0
      · subst hz; rfl
      · rw [if_neg hz]
    rw [e] at this
    exact this

theorem Cells.lit {w : World} {cs : Array Value} {t : TypeId} {g m : Nat} {G : Nat → Value} (hg : g = w.heap.size) (h : ∀ j, j < m → cs[j]? = some (G j)) : Cells (w.alloc (.cells cs t)) (some ⟨g, 0, none⟩) m G := fun _ => by
  subst hg
  refine ⟨w.heap.size, 0, rfl, by simp, fun j hj => ?_⟩
  rw [World.cell?_alloc_at _ _ _ _ rfl, Nat.zero_add]
  exact h j hj
theorem Cells.alloc {w : World} {A : Option Addr} {m : Nat} {G : Nat → Value} (h : Cells w A m G) (o : Obj) : Cells (w.alloc o) A m G := h.below ((Below.refl _ _).alloc (Nat.le_refl _) o)
theorem Below.step {B : Nat} {a w : World} (h : Below B a w) (hB : B ≤ a.heap.size) (o : Obj) : Below B a (w.alloc o) := h.alloc (Nat.le_trans hB h.size) o

/-- Structs of two ints. -/
def Two (F R : Nat → Int) : Nat → Value := fun j => if j % 2 = 0 then .int .i64 (F (j / 2)) else .int .i64 (R (j / 2))
theorem Cells.two {w : World} {A : Option Addr} {n : Nat} {F R : Nat → Int} (h : Cells w A (n * 2) (Two F R)) {k : Nat} (hk : k < n) :
    ∃ b off, A = some ⟨b, off, none⟩ ∧ b < w.heap.size ∧ w.cell? ⟨b, off + k * 2, none⟩ = some (.int .i64 (F k)) ∧ w.cell? ⟨b, off + k * 2 + 1, none⟩ = some (.int .i64 (R k)) := by
  obtain ⟨b, off, e, hlt, hc⟩ := h (by omega)
  refine ⟨b, off, e, hlt, ?_, ?_⟩
  · have := hc (k * 2) (by omega)
    unfold Two at this
    rw [if_pos (by omega), show k * 2 / 2 = k by omega] at this
    exact this
  · have := hc (k * 2 + 1) (by omega)
    unfold Two at this
    rw [if_neg (by omega), show (k * 2 + 1) / 2 = k by omega] at this
    exact this

theorem below_drewN {B : Nat} {a w : World} (h : Below B a w) (n : Nat) : Below B a (w.drewN n) := ⟨h.os, h.tape, h.output, h.size, h.block⟩
/-- From one call to the next: what lay below the first heap's size is kept. -/
theorem Below.on {w w1 w2 : World} (h : Below w.heap.size w w1) (k : Below w1.heap.size w1 w2) : Below w.heap.size w w2 := h.trans (k.mono h.size)
theorem bcell {W w1 : World} (hb : Below W.heap.size W w1) : (∀ b o, b < W.heap.size → w1.cell? ⟨b, o, none⟩ = W.cell? ⟨b, o, none⟩) ∧ (∀ b o, b < W.heap.size → w1.frozen? ⟨b, o, none⟩ = W.frozen? ⟨b, o, none⟩) :=
  ⟨fun b o h => hb.cell (p := ⟨b, o, none⟩) h, fun b o h => hb.frozen (p := ⟨b, o, none⟩) h⟩
theorem quiet_left {P : Program} {f : FuncId} {args : Array Value} {w : World} {n : Nat} {v : Value}
    (h : Calls P f args (w.drewN n) fun e w' => e = .returned v ∧ w.drewN n = w') : Calls P f args (w.drewN n) fun e w'' => e = .returned v ∧ ∃ m, w'' = w.drewN m :=
  h.mono fun _ _ ⟨he, hm⟩ => ⟨he, n, hm.symm⟩
theorem ret_int {k : IntKind} {a b : Int} (h : a = b) : Ending.returned (.int k a) = .returned (.int k b) := by rw [h]
theorem ret_bool {a b : Bool} (h : a = b) : Ending.returned (.bool a) = .returned (.bool b) := by rw [h]
theorem ret_int2 {k k' : IntKind} {a b c d : Int} (h : a = b) (h' : c = d) : Ending.returned (.tuple #[.int k a, .int k' c]) = .returned (.tuple #[.int k b, .int k' d]) := by rw [h, h']
end Go.Proofs.YtdcmpnjhomhhiaaGreat

/- Words shared by the walks that append: rows of cells made by the call itself. -/
set_option linter.unusedVariables false
namespace Go.Proofs.YtdcmpnjhomhhiaaGreat
open Go.RowKit

/-- The first m values of a sequence. -/
def row (m : Nat) (G : Nat → Value) : List Value := (List.range m).map G
theorem row_length (m : Nat) (G : Nat → Value) : (row m G).length = m := by simp [row]
theorem row_get {m j : Nat} {G : Nat → Value} (h : j < m) : (row m G)[j]? = some (G j) := by simp [row, h]
theorem row_zero (G : Nat → Value) : row 0 G = [] := rfl
theorem row_one (m : Nat) (G : Nat → Value) : row (m + 1) G = row m G ++ [G m] := by simp [row, List.range_succ]
theorem row_two (m : Nat) (G : Nat → Value) : row (m + 2) G = row m G ++ [G m, G (m + 1)] := by
  rw [row_one (m + 1), row_one m, List.append_assoc]; rfl
theorem row_three (m : Nat) (G : Nat → Value) : row (m + 3) G = row m G ++ [G m, G (m + 1), G (m + 2)] := by
  rw [row_one (m + 2), row_two m, List.append_assoc]; rfl
theorem row_congr {m : Nat} {G G' : Nat → Value} (h : ∀ j, j < m → G j = G' j) : row m G = row m G' := by
  unfold row
  exact List.map_congr_left fun j hj => h j (List.mem_range.1 hj)

/-- A slice of the call's own is a slice of that length. -/
theorem own_slice {w : World} {base : Nat} {e : TypeId} {size : Nat} {v : Value} {n : Nat} {xs : List Value} (h : w.ownsRow base e size v n xs) : ∃ A c, v = .slice A n c ∧ n ≤ c := by
  rcases h.2 with ⟨rfl, rfl⟩ | ⟨g, cap, cur, rfl, _, _, hc, _⟩
  · exact ⟨none, 0, rfl, Nat.le_refl _⟩
  · exact ⟨_, _, rfl, hc⟩
theorem Cells.of_own {w : World} {base : Nat} {e : TypeId} {size n c : Nat} {A : Option Addr} {G : Nat → Value} (h : w.ownsRow base e size (.slice A n c) n (row (n * size) G)) : Cells w A (n * size) G := fun h0 => by
  have hn : 0 < n := by
    rcases Nat.eq_zero_or_pos n with e0 | e0
    · subst e0; simp at h0
    · exact e0
  obtain ⟨g, cap, hv, hb, hlt⟩ := h.form hn
  injection hv with hA hn' hc
  subst hA
  refine ⟨g, 0, rfl, hlt, fun j hj => ?_⟩
  have := h.cells (g := g) rfl j (G j) (row_get hj)
  unfold Addr.add at this
  by_cases hz : j = 0
  · subst hz; simpa using this
  · rw [if_neg hz] at this; simpa using this
/-- Behind an append onto a slice of the call's own nothing older has turned. -/
theorem own_below {B : Nat} {w0 w w' : World} {e : TypeId} {size : Nat} {v : Value} {n : Nat} {xs : List Value} (h : Below B w0 w) (hown : w.ownsRow B e size v n xs) (hB : B ≤ w.heap.size) (hg : w.grownBy w' v.ownBlock) : Below B w0 w' :=
  h.grown hg hB fun k hk => (hown.lt k hk).1
/-- An own row is kept by what happens from B' on, where its block lies below. -/
theorem own_keep {B : Nat} {w w' : World} {e : TypeId} {size : Nat} {v : Value} {n : Nat} {xs : List Value} (hown : w.ownsRow B e size v n xs) (h : Below w.heap.size w w') : w'.ownsRow B e size v n xs := by
  refine ⟨hown.1, ?_⟩
  rcases hown.2 with hn | ⟨g, cap, cur, hv, hb, hg, h3⟩
  · exact .inl hn
  · refine .inr ⟨g, cap, cur, hv, hb, ?_, h3⟩
    rw [h.block g ?_]
    · exact hg
    · rcases Nat.lt_or_ge g w.heap.size with hl | hl
      · exact hl
      · rw [Array.getElem?_eq_none hl] at hg; cases hg

/-- Block g is just the cells cs of type t, none frozen. -/
def Blk (w : World) (g : Nat) (t : TypeId) (cs : Array Value) : Prop := w.heap[g]? = some (.cells cs t (0, 0))
-- OneBlk
theorem Blk.lt {w : World} {g : Nat} {t : TypeId} {cs : Array Value} (h : Blk w g t cs) : g < w.heap.size := by
  rcases Nat.lt_or_ge g w.heap.size with hl | hl
  · exact hl
  · unfold Blk at h; rw [Array.getElem?_eq_none hl] at h; cases h
theorem Blk.cell {w : World} {g : Nat} {t : TypeId} {cs : Array Value} (h : Blk w g t cs) (i : Nat) : w.cell? ⟨g, i, none⟩ = cs[i]? := by
  unfold Blk at h; simp [World.cell?, h]
theorem Blk.frozen {w : World} {g : Nat} {t : TypeId} {cs : Array Value} (h : Blk w g t cs) (i : Nat) : w.frozen? ⟨g, i, none⟩ = false := by
  unfold Blk at h; simp [World.frozen?, h]
theorem Blk.new (w : World) (t : TypeId) (cs : Array Value) : Blk (w.alloc (.cells cs t)) w.heap.size t cs := heap_alloc_new w _
theorem Blk.alloc {w : World} {g : Nat} {t : TypeId} {cs : Array Value} (h : Blk w g t cs) (o : Obj) : Blk (w.alloc o) g t cs := (Below.heap_alloc w o g h.lt).trans h
theorem Blk.drewN {w : World} {g : Nat} {t : TypeId} {cs : Array Value} (h : Blk w g t cs) (n : Nat) : Blk (w.drewN n) g t cs := h
theorem Blk.set_ {w : World} {g : Nat} {t : TypeId} {cs : Array Value} (h : Blk w g t cs) (i : Nat) (u : Value) : Blk (w.setCell ⟨g, i, none⟩ u) g t (cs.setIfInBounds i u) := by
  unfold Blk at h ⊢; simp [World.setCell, Array.getElem?_modify, h]
theorem Blk.below {w w' : World} {g B : Nat} {t : TypeId} {cs : Array Value} (h : Blk w g t cs) (hb : Below B w w') (hg : g < B) : Blk w' g t cs := (hb.block g hg).trans h
theorem Blk.keep {w w' : World} {g : Nat} {t : TypeId} {cs : Array Value} (h : Blk w g t cs) (hb : Below w.heap.size w w') : Blk w' g t cs := h.below hb h.lt
theorem Blk.grown {w w' : World} {g : Nat} {t : TypeId} {cs : Array Value} {row : Option Nat} (h : Blk w g t cs) (hb : w.grownBy w' row) (hg : some g ≠ row) : Blk w' g t cs := (hb.block g h.lt hg).trans h
/-- Only block g, and what is new, has turned. -/
theorem only_refl (w : World) (g : Nat) : w.grownBy w (some g) := ⟨rfl, rfl, rfl, Nat.le_refl _, fun _ _ _ => rfl⟩
theorem only_drewN {a w : World} {row : Option Nat} (h : a.grownBy w row) (n : Nat) : a.grownBy (w.drewN n) row := ⟨h.os, h.tape, h.output, h.size, h.block⟩
theorem only_alloc {a w : World} {row : Option Nat} (h : a.grownBy w row) (o : Obj) : a.grownBy (w.alloc o) row :=
  ⟨h.os, h.tape, h.output, Nat.le_trans h.size (by simp), fun i hi hne => (Below.heap_alloc w o i (Nat.lt_of_lt_of_le hi h.size)).trans (h.block i hi hne)⟩
theorem only_set {a w : World} {g : Nat} (h : a.grownBy w (some g)) (i : Nat) (u : Value) : a.grownBy (w.setCell ⟨g, i, none⟩ u) (some g) :=
  ⟨h.os, h.tape, h.output, by simpa [World.setCell] using h.size, fun k hk hne => (Below.heap_setCell w ⟨g, i, none⟩ u k (by rintro rfl; exact hne rfl)).trans (h.block k hk hne)⟩
theorem only_below {a w : World} {g : Nat} (h : a.grownBy w (some g)) (hg : g ≤ a.heap.size) : Below g a w :=
  ⟨h.os, h.tape, h.output, h.size, fun k hk => h.block k (by omega) (by intro e; injection e with e; omega)⟩
/-- An own row is kept where only another block has turned. -/
theorem own_only {B g : Nat} {w w' : World} {e : TypeId} {size : Nat} {v : Value} {n : Nat} {xs : List Value} (hown : w.ownsRow B e size v n xs) (h : w.grownBy w' (some g)) (hg : g < B) : w'.ownsRow B e size v n xs :=
  hown.kept h (by
    cases hv : v.ownBlock with
    | none => exact .inl rfl
    | some k => right; have := (hown.lt k hv).1; intro e; injection e with e; omega)
theorem size_drewN (w : World) (n : Nat) : (w.drewN n).heap.size = w.heap.size := rfl
theorem new_cell {w : World} {cs : Array Value} {t : TypeId} {g j : Nat} {v : Value} (hg : g = w.heap.size) (h : cs[j]? = some v) : (w.alloc (.cells cs t)).cell? ((⟨g, 0, none⟩ : Addr).add j) = some v := by
  have e : (⟨g, 0, none⟩ : Addr).add j = ⟨g, j, none⟩ := by
    unfold Addr.add
    by_cases hz : j = 0
    · subst hz; rfl
    · rw [if_neg hz, Nat.zero_add]
  rw [e, World.cell?_alloc_at _ _ _ _ hg]; exact h
/-- The kit's law on a region whose last operations are in one forced order, its world written as a draw. -/
theorem still_tail {P : Program} {id : Nat} {Q : Exit → Act → World → Prop} {a : Act} {w : World} {l : List Oper} (n : Nat) (hm : P.follows .mixedOrders = true) (hB : Region.lexTailB .any l.toArray n = true)
    (h : wpStill P l.toArray w.drew (fun a' => wpList P l.toArray Q (l.drop n) a' w.drew) (l.take n) a) : (Code.region id l.toArray true).wp P Q a w :=
  wp_region_still_tail n hm hB h
/-- A block below the base is not the row's own. -/
theorem own_off {B b : Nat} {w : World} {e : TypeId} {size : Nat} {v : Value} {n : Nat} {xs : List Value} (hown : w.ownsRow B e size v n xs) (hb : b < B) : some b ≠ v.ownBlock := fun e => by
  have := (hown.lt b e.symm).1; omega
/-- The address, if there is one, lies in a block from B on. -/
def Fresh (B : Nat) (D : Option Addr) : Prop := ∀ a, D = some a → B ≤ a.block
theorem Fresh.of_own {B : Nat} {w : World} {e : TypeId} {size n c : Nat} {D : Option Addr} {xs : List Value} (h : w.ownsRow B e size (.slice D n c) n xs) : Fresh B D := fun a ha => by
  subst ha
  exact (h.lt a.block rfl).1
theorem Fresh.mono {B B' : Nat} {D : Option Addr} (h : Fresh B D) (hb : B' ≤ B) : Fresh B' D := fun a ha => Nat.le_trans hb (h a ha)
/-- A slice elsewhere is kept by a store into block g. -/
theorem Cells.set_ {w : World} {D : Option Addr} {m : Nat} {G : Nat → Value} (h : Cells w D m G) {B g : Nat} (hf : Fresh B D) (hg : g < B) (i : Nat) (u : Value) : Cells (w.setCell ⟨g, i, none⟩ u) D m G := fun hm => by
  obtain ⟨b, off, e, hlt, hc⟩ := h hm
  have hb := hf _ e
  refine ⟨b, off, e, by simpa using hlt, fun j hj => ?_⟩
  rw [World.cell?_setCell_other w ⟨g, i, none⟩ ⟨b, off + j, none⟩ u (by intro e2; injection e2 with e3; simp at hb; omega)]
  exact hc j hj
end Go.Proofs.YtdcmpnjhomhhiaaGreat

/- Natural numbers by their digits, in plain Lean. No statement is proved here. -/
set_option linter.unusedVariables false
namespace Go.Proofs.YtdcmpnjhomhhiaaGreat
namespace Nt
/-- Digit j of N in base b. -/
def dig (b N j : Nat) : Nat := N / b ^ j % b
/-- The number of digits of N in base b. -/
def len (b N : Nat) : Nat := if h : 2 ≤ b ∧ 0 < N then len b (N / b) + 1 else 0
  termination_by N
  decreasing_by exact Nat.div_lt_self h.2 h.1
/-- The number with n given digits. -/
def val (b : Nat) (f : Nat → Nat) : Nat → Nat
  | 0 => 0
  | n + 1 => val b f n + b ^ n * f n

theorem dig_lt {b : Nat} (hb : 0 < b) (N j : Nat) : dig b N j < b := Nat.mod_lt _ hb
theorem dig_high {b N j : Nat} (h : N < b ^ j) : dig b N j = 0 := by
  unfold dig; rw [Nat.div_eq_of_lt h, Nat.zero_mod]
theorem len_zero (b : Nat) : len b 0 = 0 := by rw [len]; simp
theorem len_pos {b N : Nat} (hb : 2 ≤ b) (h : 0 < N) : len b N = len b (N / b) + 1 := by rw [len, dif_pos ⟨hb, h⟩]
theorem lt_pow_len {b : Nat} (hb : 2 ≤ b) (N : Nat) : N < b ^ len b N := by
  induction N using Nat.strongRecOn with
  | _ N ih =>
    rcases Nat.eq_zero_or_pos N with rfl | h
    · rw [len_zero]; simp
    · rw [len_pos hb h, Nat.pow_succ]
      exact (Nat.div_lt_iff_lt_mul (by omega)).1 (ih _ (Nat.div_lt_self h hb))
theorem pow_len_le {b : Nat} (hb : 2 ≤ b) (N : Nat) (h : 0 < N) : b ^ (len b N - 1) ≤ N := by
  induction N using Nat.strongRecOn with
  | _ N ih =>
    rw [len_pos hb h, Nat.add_sub_cancel]
    rcases Nat.eq_zero_or_pos (N / b) with h0 | h1
    · rw [h0, len_zero]; simp; omega
    · have := ih _ (Nat.div_lt_self h hb) h1
      rw [len_pos hb h1, Nat.add_sub_cancel] at this
      rw [len_pos hb h1, Nat.pow_succ]
      exact (Nat.le_div_iff_mul_le (by omega)).1 this
theorem len_le {b N n : Nat} (hb : 2 ≤ b) (h : N < b ^ n) : len b N ≤ n := by
  rcases Nat.eq_zero_or_pos N with rfl | h0
  · rw [len_zero]; omega
  · have h1 := pow_len_le hb N h0
    have h2 : b ^ (len b N - 1) < b ^ n := Nat.lt_of_le_of_lt h1 h
    have := (Nat.pow_lt_pow_iff_right (by omega)).1 h2
    omega
theorem len_eq {b N n : Nat} (hb : 2 ≤ b) (h : N < b ^ n) (h1 : n = 0 ∨ b ^ (n - 1) ≤ N) : len b N = n := by
  have h2 := len_le hb h
  rcases h1 with rfl | h1
  · omega
  · have h3 := lt_pow_len hb N
    have h4 := (Nat.pow_lt_pow_iff_right (a := b) (by omega)).1 (Nat.lt_of_le_of_lt h1 h3)
    omega
theorem len_top {b N : Nat} (hb : 2 ≤ b) (h : 0 < len b N) : dig b N (len b N - 1) ≠ 0 := by
  have h0 : 0 < N := by
    rcases Nat.eq_zero_or_pos N with rfl | h0
    · rw [len_zero] at h; omega
    · exact h0
  have h1 := pow_len_le hb N h0
  have h2 := lt_pow_len hb N
  have hp : 0 < b ^ (len b N - 1) := Nat.pow_pos (by omega)
  have h3 : 1 ≤ N / b ^ (len b N - 1) := (Nat.le_div_iff_mul_le hp).2 (by omega)
  have h4 : N / b ^ (len b N - 1) < b := (Nat.div_lt_iff_lt_mul hp).2 (by
    rw [Nat.mul_comm, ← Nat.pow_succ, show (len b N - 1).succ = len b N by omega]; exact h2)
  unfold dig
  rw [Nat.mod_eq_of_lt h4]; omega
theorem len_dig {b N n : Nat} (hb : 2 ≤ b) (h : N < b ^ n) (h1 : n = 0 ∨ dig b N (n - 1) ≠ 0) : len b N = n := by
  refine len_eq hb h (h1.imp id fun h2 => ?_)
  rcases Nat.lt_or_ge N (b ^ (n - 1)) with h3 | h3
  · exact absurd (dig_high h3) h2
  · exact h3
theorem len_eq_zero {b N : Nat} (hb : 2 ≤ b) : len b N = 0 ↔ N = 0 := by
  constructor
  · intro h
    have := lt_pow_len hb N
    rw [h] at this; simpa using this
  · rintro rfl; exact len_zero b
theorem len_mono {b x y : Nat} (hb : 2 ≤ b) (h : x ≤ y) : len b x ≤ len b y := len_le hb (Nat.lt_of_le_of_lt h (lt_pow_len hb y))
theorem lt_of_len {b x y : Nat} (hb : 2 ≤ b) (h : len b x < len b y) : x < y := by
  rcases Nat.lt_or_ge x y with h1 | h1
  · exact h1
  · have := len_mono hb h1; omega
theorem mod_next (b x k : Nat) : x % b ^ (k + 1) = x % b ^ k + b ^ k * dig b x k := Nat.mod_pow_succ
theorem div_next (b x k : Nat) : x / b ^ k = x / b ^ (k + 1) * b + dig b x k := by
  unfold dig
  rw [Nat.pow_succ, ← Nat.div_div_eq_div_mul]
  have := Nat.div_add_mod (x / b ^ k) b
  rw [Nat.mul_comm] at this; exact this.symm

/-! Comparison from the top. -/
theorem cmp_lt {b x y k : Nat} (h : x / b ^ (k + 1) = y / b ^ (k + 1)) (hd : dig b x k < dig b y k) : x < y := by
  have h1 := div_next b x k
  have h2 := div_next b y k
  rw [h] at h1
  rcases Nat.lt_or_ge x y with h3 | h3
  · exact h3
  · have := Nat.div_le_div_right (c := b ^ k) h3
    omega
theorem cmp_eq {b x y k : Nat} (h : x / b ^ (k + 1) = y / b ^ (k + 1)) (hd : dig b x k = dig b y k) : x / b ^ k = y / b ^ k := by
  rw [div_next b x k, div_next b y k, h, hd]
theorem cmp_top {b x n : Nat} (h : x < b ^ n) : x / b ^ n = 0 := Nat.div_eq_of_lt h

/-! A chain of carries. -/
theorem chain_c {b : Nat} (hb : 0 < b) (T q k : Nat) : (T + b ^ k * q) / b ^ (k + 1) = (T / b ^ k + q) / b := by
  rw [Nat.pow_succ, ← Nat.div_div_eq_div_mul, Nat.add_mul_div_left _ _ (Nat.pow_pos hb)]
theorem chain_d {b : Nat} (hb : 0 < b) (T q k : Nat) : dig b (T + b ^ k * q) k = (T / b ^ k + q) % b := by
  unfold dig
  rw [Nat.add_mul_div_left _ _ (Nat.pow_pos hb)]
theorem chain_lo {b : Nat} (hb : 0 < b) (T q : Nat) {k t : Nat} (h : t < k) : dig b (T + b ^ k * q) t = dig b T t := by
  unfold dig
  obtain ⟨d, rfl⟩ : ∃ d, k = t + 1 + d := ⟨k - t - 1, by omega⟩
  rw [Nat.pow_add, Nat.pow_succ, Nat.mul_assoc, Nat.mul_assoc, Nat.add_mul_div_left _ _ (Nat.pow_pos hb), Nat.add_mul_mod_self_left]
theorem dig_mod {b : Nat} (hb : 0 < b) (N : Nat) {k t : Nat} (h : t < k) : dig b (N % b ^ k) t = dig b N t := by
  have := chain_lo hb (N % b ^ k) (N / b ^ k) h
  rw [Nat.mod_add_div] at this; exact this.symm
theorem dig_ext {b : Nat} (hb : 0 < b) {x y : Nat} : ∀ n, (∀ j, j < n → dig b x j = dig b y j) → x % b ^ n = y % b ^ n := by
  intro n
  induction n with
  | zero => intro _; simp [Nat.mod_one]
  | succ n ih => intro h; rw [mod_next, mod_next, ih fun j hj => h j (by omega), h n (by omega)]

/-! Numbers by their digits. -/
theorem val_lt {b : Nat} {f : Nat → Nat} {n : Nat} (h : ∀ i, i < n → f i < b) : val b f n < b ^ n := by
  induction n with
  | zero => simp [val]
  | succ n ih =>
    have h1 := ih fun i hi => h i (by omega)
    have h2 := h n (by omega)
    have h3 : b ^ n * (f n + 1) ≤ b ^ n * b := Nat.mul_le_mul_left _ h2
    rw [Nat.mul_add, Nat.mul_one] at h3
    rw [val, Nat.pow_succ]; omega
theorem val_dig (b N : Nat) : ∀ n, val b (dig b N) n = N % b ^ n := by
  intro n
  induction n with
  | zero => simp [val, Nat.mod_one]
  | succ n ih => rw [val, ih, mod_next]
theorem dig_val {b : Nat} (hb : 0 < b) {f : Nat → Nat} : ∀ {n : Nat}, (∀ i, i < n → f i < b) → ∀ {j : Nat}, j < n → dig b (val b f n) j = f j := by
  intro n
  induction n with
  | zero => intro _ j hj; omega
  | succ n ih =>
    intro h j hj
    have h2 := val_lt (b := b) (f := f) (n := n) fun i hi => h i (by omega)
    rw [val]
    rcases Nat.lt_or_ge j n with h3 | h3
    · rw [chain_lo hb _ _ h3]; exact ih (fun i hi => h i (by omega)) h3
    · obtain rfl : j = n := by omega
      rw [chain_d hb, Nat.div_eq_of_lt h2, Nat.zero_add, Nat.mod_eq_of_lt (h j (by omega))]
theorem len_val {b : Nat} (hb : 2 ≤ b) {f : Nat → Nat} {n : Nat} (h : ∀ i, i < n → f i < b) (h1 : n = 0 ∨ f (n - 1) ≠ 0) : len b (val b f n) = n := by
  refine len_dig hb (val_lt h) ?_
  rcases h1 with h1 | h1
  · exact .inl h1
  · rcases Nat.eq_zero_or_pos n with h2 | h2
    · exact .inl h2
    · right; rw [dig_val (by omega) h (by omega)]; exact h1

/-! Sums. -/
/-- The carry into digit k of x + y. -/
def car (b x y k : Nat) : Nat := (x % b ^ k + y % b ^ k) / b ^ k
theorem car_zero (b x y : Nat) : car b x y 0 = 0 := by simp [car, Nat.mod_one]
theorem car_le {b : Nat} (hb : 0 < b) (x y k : Nat) : car b x y k ≤ 1 := by
  have hp : 0 < b ^ k := Nat.pow_pos hb
  have h1 := Nat.mod_lt x hp
  have h2 := Nat.mod_lt y hp
  unfold car
  have : (x % b ^ k + y % b ^ k) / b ^ k < 2 := (Nat.div_lt_iff_lt_mul hp).2 (by omega)
  omega
theorem add_mod_next (b x y k : Nat) : x % b ^ (k + 1) + y % b ^ (k + 1) = (x % b ^ k + y % b ^ k) + b ^ k * (dig b x k + dig b y k) := by
  rw [mod_next, mod_next, Nat.mul_add]; omega
theorem car_next {b : Nat} (hb : 0 < b) (x y k : Nat) : car b x y (k + 1) = (car b x y k + (dig b x k + dig b y k)) / b := by
  unfold car
  rw [add_mod_next, chain_c hb]
theorem dig_add {b : Nat} (hb : 0 < b) (x y k : Nat) : dig b (x + y) k = (car b x y k + (dig b x k + dig b y k)) % b := by
  have h1 : dig b (x + y) k = dig b (x % b ^ (k + 1) + y % b ^ (k + 1)) k := by
    rw [← dig_mod hb (x + y) (Nat.lt_succ_self k), ← dig_mod hb (x % b ^ (k + 1) + y % b ^ (k + 1)) (Nat.lt_succ_self k), Nat.add_mod]
  rw [h1, add_mod_next, chain_d hb]; rfl
theorem add_step {b : Nat} (hb : 0 < b) (x y k : Nat) : car b x y k + dig b x k + dig b y k = b * car b x y (k + 1) + dig b (x + y) k := by
  rw [car_next hb, dig_add hb, Nat.div_add_mod]; omega
theorem car_end {b x y n : Nat} (hx : x < b ^ n) (hy : y < b ^ n) : car b x y n = (x + y) / b ^ n := by
  unfold car; rw [Nat.mod_eq_of_lt hx, Nat.mod_eq_of_lt hy]
/-- The last carry is the digit above. -/
theorem car_top {b x y n : Nat} (hb : 2 ≤ b) (hx : x < b ^ n) (hy : y < b ^ n) : car b x y n = dig b (x + y) n ∧ x + y < b ^ (n + 1) := by
  have h1 := car_le (b := b) (by omega) x y n
  have h2 := car_end hx hy
  have h3 : b ^ n * 2 ≤ b ^ n * b := Nat.mul_le_mul_left _ hb
  constructor
  · unfold dig; rw [← h2, Nat.mod_eq_of_lt (by omega)]
  · rw [Nat.pow_succ]; omega
/-! Differences: with x = z + y. -/
theorem sub_step {b : Nat} (hb : 0 < b) {x y z : Nat} (h : z + y = x) (k : Nat) :
    (dig b x k < car b z y k + dig b y k → car b z y (k + 1) = 1 ∧ dig b z k = dig b x k + b - (car b z y k + dig b y k)) ∧
    (¬ dig b x k < car b z y k + dig b y k → car b z y (k + 1) = 0 ∧ dig b z k = dig b x k - (car b z y k + dig b y k)) := by
  have h1 := add_step hb z y k
  rw [h] at h1
  have h2 := car_le hb z y (k + 1)
  have h3 := dig_lt hb z k
  have h4 := dig_lt hb x k
  rcases (show car b z y (k + 1) = 0 ∨ car b z y (k + 1) = 1 by omega) with e | e
  · rw [e, Nat.mul_zero, Nat.zero_add] at h1
    exact ⟨fun hl => by omega, fun _ => ⟨e, by omega⟩⟩
  · rw [e, Nat.mul_one] at h1
    exact ⟨fun _ => ⟨e, by omega⟩, fun hl => by omega⟩
/-! Products, row by row. -/
/-- Behind i rows and j products of the next row, below digit i + j. -/
def mrow (b x y i j : Nat) : Nat := (x % b ^ i * y) % b ^ (i + j) + dig b x i * (y % b ^ j) * b ^ i
theorem mrow_next (b x y i j : Nat) : mrow b x y i (j + 1) = mrow b x y i j + b ^ (i + j) * (dig b (x % b ^ i * y) (i + j) + dig b x i * dig b y j) := by
  unfold mrow
  rw [show i + (j + 1) = i + j + 1 by omega, mod_next, mod_next, Nat.mul_add, Nat.mul_add, Nat.add_mul, Nat.pow_add]
  rw [show dig b x i * (b ^ j * dig b y j) * b ^ i = b ^ i * b ^ j * (dig b x i * dig b y j) by
    rw [Nat.mul_comm (b ^ i * b ^ j), Nat.mul_assoc, Nat.mul_assoc, Nat.mul_assoc, Nat.mul_comm (b ^ j), Nat.mul_assoc]]
  omega
theorem mrow_zero (b x y i : Nat) : mrow b x y i 0 = (x % b ^ i * y) % b ^ i := by simp [mrow, Nat.mod_one]
theorem mul_next (b x y i : Nat) : x % b ^ (i + 1) * y = x % b ^ i * y + dig b x i * y * b ^ i := by
  rw [mod_next, Nat.add_mul, Nat.mul_assoc, Nat.mul_comm (b ^ i)]
theorem mrow_lt {b : Nat} (hb : 0 < b) (x y i j : Nat) : mrow b x y i j < b ^ (i + j + 1) := by
  have h1 := Nat.mod_lt (x % b ^ i * y) (Nat.pow_pos (n := i + j) hb)
  have h2 := Nat.mod_lt y (Nat.pow_pos (n := j) hb)
  have h3 := dig_lt hb x i
  have h4 : dig b x i * (y % b ^ j) * b ^ i ≤ (b - 1) * (b ^ j) * b ^ i := Nat.mul_le_mul_right _ (Nat.mul_le_mul (by omega) (Nat.le_of_lt h2))
  have h5 : (b - 1) * (b ^ j) * b ^ i = (b - 1) * b ^ (i + j) := by rw [Nat.pow_add, Nat.mul_assoc, Nat.mul_comm (b ^ j)]
  have h6 : b ^ (i + j + 1) = (b - 1) * b ^ (i + j) + b ^ (i + j) := by
    obtain ⟨c, rfl⟩ : ∃ c, b = c + 1 := ⟨b - 1, by omega⟩
    rw [Nat.add_sub_cancel, Nat.pow_succ, Nat.mul_add, Nat.mul_one, Nat.mul_comm]
  unfold mrow; omega
theorem prod_lt {b x y i m : Nat} (hb : 0 < b) (hy : y < b ^ m) : x % b ^ i * y < b ^ (i + m) := by
  have h2 := Nat.mod_lt x (Nat.pow_pos (n := i) hb)
  rw [Nat.pow_add]
  exact Nat.mul_lt_mul_of_lt_of_le h2 (Nat.le_of_lt hy) (by omega)
theorem mrow_end {b x y i m : Nat} (hb : 0 < b) (hy : y < b ^ m) : mrow b x y i m = x % b ^ (i + 1) * y := by
  have h1 : x % b ^ i * y < b ^ (i + m) := by
    have h2 := Nat.mod_lt x (Nat.pow_pos (n := i) hb)
    rw [Nat.pow_add]
    exact Nat.mul_lt_mul_of_lt_of_le h2 (Nat.le_of_lt hy) (by omega)
  rw [mul_next]
  unfold mrow
  rw [Nat.mod_eq_of_lt h1, Nat.mod_eq_of_lt hy]
/-- The cells of the product behind j products of row i. -/
def mcell (b x y i j t : Nat) : Nat := if t < i + j then dig b (mrow b x y i j) t else dig b (x % b ^ i * y) t
/-- The carry there. -/
def mcar (b x y i j : Nat) : Nat := mrow b x y i j / b ^ (i + j)
theorem mcar_zero {b : Nat} (hb : 0 < b) (x y i : Nat) : mcar b x y i 0 = 0 := by
  unfold mcar; rw [mrow_zero]; exact Nat.div_eq_of_lt (Nat.mod_lt _ (Nat.pow_pos hb))
theorem mcar_lt {b : Nat} (hb : 0 < b) (x y i j : Nat) : mcar b x y i j < b := by
  unfold mcar
  exact (Nat.div_lt_iff_lt_mul (Nat.pow_pos hb)).2 (by rw [Nat.mul_comm, ← Nat.pow_succ]; exact mrow_lt hb x y i j)
theorem mcell_zero {b : Nat} (hb : 0 < b) (x y i t : Nat) : mcell b x y i 0 t = dig b (x % b ^ i * y) t := by
  unfold mcell
  rw [mrow_zero, Nat.add_zero]
  split
  · rename_i h; exact dig_mod hb _ h
  · rfl
theorem mcell_old (b x y i j : Nat) : mcell b x y i j (i + j) = dig b (x % b ^ i * y) (i + j) := by
  unfold mcell; rw [if_neg (by omega)]
theorem m_step {b : Nat} (hb : 0 < b) (x y i j : Nat) : mcar b x y i j + (dig b (x % b ^ i * y) (i + j) + dig b x i * dig b y j) = b * mcar b x y i (j + 1) + mcell b x y i (j + 1) (i + j) := by
  have h1 : mcar b x y i (j + 1) = (mcar b x y i j + (dig b (x % b ^ i * y) (i + j) + dig b x i * dig b y j)) / b := by
    unfold mcar
    rw [mrow_next, show i + (j + 1) = i + j + 1 by omega, chain_c hb]
  have h2 : mcell b x y i (j + 1) (i + j) = (mcar b x y i j + (dig b (x % b ^ i * y) (i + j) + dig b x i * dig b y j)) % b := by
    unfold mcell mcar
    rw [if_pos (by omega), mrow_next, chain_d hb]
  rw [h1, h2, Nat.div_add_mod]
theorem mcell_next {b : Nat} (hb : 0 < b) {x y i j t : Nat} (ht : t ≠ i + j) : mcell b x y i (j + 1) t = mcell b x y i j t := by
  unfold mcell
  by_cases h : t < i + j
  · rw [if_pos (by omega), if_pos h, mrow_next, chain_lo hb _ _ h]
  · rw [if_neg (by omega), if_neg h]
/-- Behind a whole row, with its last carry stored. -/
theorem mcell_end {b : Nat} (hb : 0 < b) {x y i m t : Nat} (hy : y < b ^ m) : (if t = i + m then mcar b x y i m else mcell b x y i m t) = dig b (x % b ^ (i + 1) * y) t := by
  have h1 := mrow_end (x := x) (i := i) hb hy
  have h2 := prod_lt (x := x) (i := i) hb hy
  have h3 := prod_lt (x := x) (i := i + 1) hb hy
  by_cases e : t = i + m
  · subst e
    rw [if_pos rfl]
    unfold mcar
    rw [h1]
    have h4 : b ^ (i + 1 + m) = b * b ^ (i + m) := by rw [show i + 1 + m = i + m + 1 by omega, Nat.pow_succ, Nat.mul_comm]
    rw [h4] at h3
    exact (Nat.mod_eq_of_lt ((Nat.div_lt_iff_lt_mul (Nat.pow_pos hb)).2 h3)).symm
  · rw [if_neg e]
    unfold mcell
    by_cases h : t < i + m
    · rw [if_pos h, h1]
    · rw [if_neg h, dig_high (Nat.lt_of_lt_of_le h2 (Nat.pow_le_pow_right hb (by omega))), dig_high (Nat.lt_of_lt_of_le h3 (Nat.pow_le_pow_right hb (by omega)))]
/-- A row that ends when no carry is left. -/
theorem mcell_done {b : Nat} (hb : 0 < b) {x y i j m t : Nat} (hy : y < b ^ m) (hj : m ≤ j) (hc : mcar b x y i j = 0) : mcell b x y i j t = dig b (x % b ^ (i + 1) * y) t := by
  have := mcell_end (x := x) (i := i) (t := t) hb (Nat.lt_of_lt_of_le hy (Nat.pow_le_pow_right hb hj))
  rw [← this]
  by_cases e : t = i + j
  · subst e
    rw [if_pos rfl, hc, mcell_old]
    exact dig_high (Nat.lt_of_lt_of_le (prod_lt hb hy) (Nat.pow_le_pow_right hb (by omega)))
  · rw [if_neg e]
theorem mcar_far {b : Nat} (hb : 0 < b) {x y i j m : Nat} (hy : y < b ^ m) (hj : m < j) : mcar b x y i j = 0 := by
  unfold mcar
  rw [mrow_end hb (Nat.lt_of_lt_of_le hy (Nat.pow_le_pow_right hb (by omega)))]
  exact Nat.div_eq_of_lt (Nat.lt_of_lt_of_le (prod_lt hb hy) (Nat.pow_le_pow_right hb (by omega)))
/-! Long division, digit by digit from the top. -/
/-- What is divided for digit j: the rest of what stands above, and digit j. -/
def win (b u v j : Nat) : Nat := u / b ^ (j + 1) % v * b + dig b u j
theorem div_rest (b u j : Nat) : u / b ^ j = u / b ^ (j + 1) * b + dig b u j := div_next b u j
theorem win_div {b u v j : Nat} (hb : 0 < b) (hv : 0 < v) : u / b ^ j = v * (b * (u / b ^ (j + 1) / v)) + win b u v j := by
  rw [div_rest]
  unfold win
  have h := Nat.div_add_mod (u / b ^ (j + 1)) v
  generalize u / b ^ (j + 1) % v = r at *
  generalize u / b ^ (j + 1) / v = q at *
  rw [← h, Nat.add_mul, Nat.mul_assoc, Nat.mul_comm q b]; omega
theorem win_lt {b u v j : Nat} (hb : 0 < b) (hv : 0 < v) : win b u v j < v * b := by
  have h1 := Nat.mod_lt (u / b ^ (j + 1)) hv
  have h2 := dig_lt hb u j
  have h3 : (u / b ^ (j + 1) % v + 1) * b ≤ v * b := Nat.mul_le_mul_right _ h1
  rw [Nat.add_mul, Nat.one_mul] at h3
  unfold win; omega
theorem win_mod {b u v j : Nat} (hb : 0 < b) (hv : 0 < v) : u / b ^ j % v = win b u v j % v := by
  rw [win_div hb hv, Nat.mul_add_mod]
theorem dig_quo {b u v j : Nat} (hb : 0 < b) (hv : 0 < v) : dig b (u / v) j = win b u v j / v := by
  unfold dig
  rw [Nat.div_div_eq_div_mul, Nat.mul_comm v, ← Nat.div_div_eq_div_mul, win_div hb hv, Nat.mul_add_div hv, Nat.mul_add_mod]
  exact Nat.mod_eq_of_lt ((Nat.div_lt_iff_lt_mul hv).2 (by rw [Nat.mul_comm]; exact win_lt hb hv))
/-- A guess of the quotient R / v by its highest digits: e is b^(n-2), d2 and u3 the two and the three highest digits. -/
theorem guess_le {R v d2 u3 e q : Nat} (hq : q * v ≤ R) (hv : d2 * e ≤ v) (hR : R < (u3 + 1) * e) : q * d2 ≤ u3 := by
  have h1 : q * d2 * e ≤ R := by
    rw [Nat.mul_assoc]; exact Nat.le_trans (Nat.mul_le_mul_left _ hv) hq
  have h2 : q * d2 * e < (u3 + 1) * e := Nat.lt_of_le_of_lt h1 hR
  have := Nat.lt_of_mul_lt_mul_right h2
  omega
theorem guess_ge {R v d2 u3 e g : Nat} (hg : g * d2 ≤ u3) (hR : u3 * e ≤ R) (hv : v ≤ (d2 + 1) * e) (he : g * e ≤ v) (hv0 : 0 < v) (hg0 : 0 < g) : (g - 1) * v ≤ R := by
  have h1 : g * v ≤ g * ((d2 + 1) * e) := Nat.mul_le_mul_left _ hv
  have h2 : g * ((d2 + 1) * e) = g * d2 * e + g * e := by
    rw [Nat.add_mul, Nat.mul_add, Nat.one_mul, Nat.mul_assoc]
  have h3 : g * d2 * e ≤ u3 * e := Nat.mul_le_mul_right _ hg
  have h4 : g * v = (g - 1) * v + v := by
    obtain ⟨g', rfl⟩ : ∃ g', g = g' + 1 := ⟨g - 1, by omega⟩
    rw [Nat.add_sub_cancel, Nat.add_mul, Nat.one_mul]
  omega
/-- The quotient is the guess, or one less. -/
theorem guess_end {R v g : Nat} (hv : 0 < v) (h1 : R / v ≤ g) (h2 : g = 0 ∨ (g - 1) * v ≤ R) : R / v = g ∨ R / v + 1 = g := by
  rcases h2 with h2 | h2
  · generalize R / v = q at *
    omega
  · have := (Nat.le_div_iff_mul_le hv).2 h2
    generalize R / v = q at *
    omega
end Nt
end Go.Proofs.YtdcmpnjhomhhiaaGreat

/- Words for the walks of package nat: numbers in memory. No statement is proved here. -/
set_option linter.unusedVariables false
namespace Go.Proofs.YtdcmpnjhomhhiaaGreat
open Go.RowKit

/-- Limbs, and digits of 16 bits. -/
def L32 (N : Nat) : Nat := Nt.len 4294967296 N
def d32 (N j : Nat) : Nat := Nt.dig 4294967296 N j
def Fit32 (N n : Nat) : Prop := N < 4294967296 ^ n
def L16 (N : Nat) : Nat := Nt.len 65536 N
def d16 (N j : Nat) : Nat := Nt.dig 65536 N j
def Fit16 (N n : Nat) : Prop := N < 65536 ^ n
/-- Limbs, and digits, as cells. -/
def Lm (f : Nat → Nat) : Nat → Value := fun j => .int .u32 (f j : Int)
def Dg (f : Nat → Nat) : Nat → Value := fun j => .int .i64 (f j : Int)
/-- A value of type api.Nat. -/
def natv (D : Option Addr) (n c : Nat) : Value := .agg #[.slice D n c]

theorem Cells.lm {w : World} {D : Option Addr} {n : Nat} {f : Nat → Nat} (h : Cells w D n (Lm f)) {k : Nat} (hk : k < n) :
    ∃ b off, D = some ⟨b, off, none⟩ ∧ b < w.heap.size ∧ w.cell? ⟨b, off + k, none⟩ = some (.int .u32 (f k : Int)) := by
  obtain ⟨b, off, e, hlt, hc⟩ := h (by omega)
  exact ⟨b, off, e, hlt, hc k hk⟩
theorem Cells.dg {w : World} {D : Option Addr} {n : Nat} {f : Nat → Nat} (h : Cells w D n (Dg f)) {k : Nat} (hk : k < n) :
    ∃ b off, D = some ⟨b, off, none⟩ ∧ b < w.heap.size ∧ w.cell? ⟨b, off + k, none⟩ = some (.int .i64 (f k : Int)) := by
  obtain ⟨b, off, e, hlt, hc⟩ := h (by omega)
  exact ⟨b, off, e, hlt, hc k hk⟩
theorem Cells.congr {w : World} {D : Option Addr} {n : Nat} {F G : Nat → Value} (h : Cells w D n F) (e : ∀ j, j < n → F j = G j) : Cells w D n G := fun hn => by
  obtain ⟨b, off, hD, hlt, hc⟩ := h hn
  exact ⟨b, off, hD, hlt, fun j hj => by rw [hc j hj, e j hj]⟩
theorem d32_lt (N j : Nat) : d32 N j < 4294967296 := Nt.dig_lt (by omega) N j
theorem d16_lt (N j : Nat) : d16 N j < 65536 := Nt.dig_lt (by omega) N j
theorem d32_le (N j : Nat) : (d32 N j : Int) ≤ 4294967295 := by have := d32_lt N j; omega
theorem d16_le (N j : Nat) : (d16 N j : Int) ≤ 65535 := by have := d16_lt N j; omega
theorem fit32_len (N : Nat) : Fit32 N (L32 N) := Nt.lt_pow_len (by omega) N
theorem fit16_len (N : Nat) : Fit16 N (L16 N) := Nt.lt_pow_len (by omega) N
theorem fit32_down {N k : Nat} (hk : 0 < k) (h : Fit32 N k) (hd : d32 N (k - 1) = 0) : Fit32 N (k - 1) := by
  unfold Fit32 at h ⊢
  obtain ⟨j, rfl⟩ : ∃ j, k = j + 1 := ⟨k - 1, by omega⟩
  rw [Nat.add_sub_cancel] at hd ⊢
  have h1 := Nt.mod_next 4294967296 N j
  rw [Nat.mod_eq_of_lt h] at h1
  unfold d32 at hd
  rw [hd, Nat.mul_zero, Nat.add_zero] at h1
  rw [h1]; exact Nat.mod_lt _ (Nat.pow_pos (by omega))
theorem fit16_down {N k : Nat} (hk : 0 < k) (h : Fit16 N k) (hd : d16 N (k - 1) = 0) : Fit16 N (k - 1) := by
  unfold Fit16 at h ⊢
  obtain ⟨j, rfl⟩ : ∃ j, k = j + 1 := ⟨k - 1, by omega⟩
  rw [Nat.add_sub_cancel] at hd ⊢
  have h1 := Nt.mod_next 65536 N j
  rw [Nat.mod_eq_of_lt h] at h1
  unfold d16 at hd
  rw [hd, Nat.mul_zero, Nat.add_zero] at h1
  rw [h1]; exact Nat.mod_lt _ (Nat.pow_pos (by omega))
theorem len32_end {N k : Nat} (h : Fit32 N k) (hd : k = 0 ∨ d32 N (k - 1) ≠ 0) : L32 N = k := Nt.len_dig (by omega) h hd
theorem len16_end {N k : Nat} (h : Fit16 N k) (hd : k = 0 ∨ d16 N (k - 1) ≠ 0) : L16 N = k := Nt.len_dig (by omega) h hd
theorem len32_top {N : Nat} (h : 0 < L32 N) : 0 < d32 N (L32 N - 1) := Nat.pos_of_ne_zero (Nt.len_top (by omega) h)
theorem len16_top {N : Nat} (h : 0 < L16 N) : 0 < d16 N (L16 N - 1) := Nat.pos_of_ne_zero (Nt.len_top (by omega) h)
theorem d32_high {N j : Nat} (h : L32 N ≤ j) : d32 N j = 0 := Nt.dig_high (Nat.lt_of_lt_of_le (fit32_len N) (Nat.pow_le_pow_right (by omega) h))
theorem d16_high {N j : Nat} (h : L16 N ≤ j) : d16 N j = 0 := Nt.dig_high (Nat.lt_of_lt_of_le (fit16_len N) (Nat.pow_le_pow_right (by omega) h))
theorem fit32_le {N n : Nat} (h : Fit32 N n) : L32 N ≤ n := Nt.len_le (by omega) h
theorem fit16_le {N n : Nat} (h : Fit16 N n) : L16 N ≤ n := Nt.len_le (by omega) h
theorem fit32_of {N n : Nat} (h : L32 N ≤ n) : Fit32 N n := Nat.lt_of_lt_of_le (fit32_len N) (Nat.pow_le_pow_right (by omega) h)
theorem fit16_of {N n : Nat} (h : L16 N ≤ n) : Fit16 N n := Nat.lt_of_lt_of_le (fit16_len N) (Nat.pow_le_pow_right (by omega) h)
theorem L32_zero {N : Nat} : L32 N = 0 ↔ N = 0 := Nt.len_eq_zero (by omega)
theorem L16_zero {N : Nat} : L16 N = 0 ↔ N = 0 := Nt.len_eq_zero (by omega)
/-- The number of n limbs. -/
def v32 (f : Nat → Nat) (n : Nat) : Nat := Nt.val 4294967296 f n
/-- Are n limbs a valid number? -/
def vd (n : Nat) (f : Nat → Nat) : Bool := decide (n ≤ 64) && (n == 0 || f (n - 1) != 0)
theorem vd_num {n : Nat} {f : Nat → Nat} (hf : ∀ j, j < n → f j < 4294967296) (h : vd n f = true) : n ≤ 64 ∧ L32 (v32 f n) = n ∧ ∀ j, j < n → d32 (v32 f n) j = f j := by
  unfold vd at h
  simp only [Bool.and_eq_true, Bool.or_eq_true, decide_eq_true_eq, beq_iff_eq, bne_iff_ne] at h
  exact ⟨h.1, Nt.len_val (by omega) hf h.2, fun j hj => Nt.dig_val (by omega) hf hj⟩
end Go.Proofs.YtdcmpnjhomhhiaaGreat

/- Plain facts of the greatest common divisor, by halves and differences. -/
set_option linter.unusedVariables false
namespace Go.Proofs.YtdcmpnjhomhhiaaGreat

theorem gcd_both {x y : Nat} (hx : x % 2 = 0) (hy : y % 2 = 0) : Nat.gcd x y = 2 * Nat.gcd (x / 2) (y / 2) := by
  rw [← Nat.gcd_mul_left, show 2 * (x / 2) = x by omega, show 2 * (y / 2) = y by omega]
theorem gcd_left {x y : Nat} (hx : x % 2 = 0) (hy : y % 2 ≠ 0) : Nat.gcd x y = Nat.gcd (x / 2) y := by
  have hc : Nat.Coprime 2 y := by
    show Nat.gcd 2 y = 1
    rw [Nat.gcd_rec, show y % 2 = 1 by omega]; rfl
  have h := Nat.Coprime.gcd_mul_left_cancel (x / 2) hc
  rw [show 2 * (x / 2) = x by omega] at h
  exact h
theorem gcd_right {x y : Nat} (hx : x % 2 ≠ 0) (hy : y % 2 = 0) : Nat.gcd x y = Nat.gcd x (y / 2) := by
  rw [Nat.gcd_comm, gcd_left hy hx, Nat.gcd_comm]
theorem gcd_less {x y : Nat} (h : y ≤ x) : Nat.gcd (x - y) y = Nat.gcd x y := by
  conv => rhs; rw [show x = (x - y) + y by omega, Nat.gcd_add_self_left]
theorem gcd_less' {x y : Nat} (h : x ≤ y) : Nat.gcd x (y - x) = Nat.gcd x y := by
  rw [Nat.gcd_comm, gcd_less h, Nat.gcd_comm]

/-- The state of the halving: what is left of both numbers, and how often both were halved. -/
def Gst (a b x y t : Nat) : Prop := Nat.gcd a b = 2 ^ t * Nat.gcd x y ∧ (x + y) * 2 ^ t ≤ a + b ∧ (t = 0 ∨ 2 ^ t ≤ a + b)
theorem gst_start (a b : Nat) : Gst a b a b 0 := ⟨by simp, by simp, .inl rfl⟩
theorem gst_le {a b x y t : Nat} (h : Gst a b x y t) : x + y ≤ a + b :=
  Nat.le_trans (Nat.le_mul_of_pos_right _ (Nat.pow_pos (by omega))) h.2.1
theorem gst_sub {a b x y x' y' t : Nat} (h : Gst a b x y t) (hg : Nat.gcd x y = Nat.gcd x' y') (hl : x' + y' ≤ x + y) : Gst a b x' y' t :=
  ⟨hg ▸ h.1, Nat.le_trans (Nat.mul_le_mul_right _ hl) h.2.1, h.2.2⟩
theorem gst_both {a b x y t : Nat} (h : Gst a b x y t) (hx0 : 0 < x) (hx : x % 2 = 0) (hy : y % 2 = 0) : Gst a b (x / 2) (y / 2) (t + 1) := by
  have e : (x / 2 + y / 2) * 2 ^ (t + 1) = (x + y) * 2 ^ t := by
    rw [Nat.pow_succ, Nat.mul_comm (2 ^ t) 2, ← Nat.mul_assoc, show (x / 2 + y / 2) * 2 = x + y by omega]
  refine ⟨?_, ?_, .inr ?_⟩
  · rw [h.1, gcd_both hx hy, Nat.pow_succ, Nat.mul_assoc]
  · rw [e]; exact h.2.1
  · refine Nat.le_trans ?_ (Nat.le_trans (Nat.le_of_eq e) h.2.1)
    exact Nat.le_mul_of_pos_left _ (by omega)
theorem gst_end {a b x y t : Nat} (h : Gst a b x y t) (h0 : x = 0 ∨ y = 0) : (x + y) * 2 ^ t = Nat.gcd a b := by
  rw [h.1, Nat.mul_comm]
  congr 1
  rcases h0 with rfl | rfl
  · rw [Nat.gcd_zero_left, Nat.zero_add]
  · rw [Nat.gcd_zero_right, Nat.add_zero]
theorem gst_t {a b x y t m : Nat} (h : Gst a b x y t) (hab : a + b < 2 ^ m) : t ≤ m := by
  rcases h.2.2 with rfl | h2
  · omega
  · exact Nat.le_of_lt ((Nat.pow_lt_pow_iff_right (by omega : 1 < 2)).1 (Nat.lt_of_le_of_lt h2 hab))
end Go.Proofs.YtdcmpnjhomhhiaaGreat

/- The walks of nat.trimmed, nat.Valid, nat.compare and of their references. -/
set_option linter.unusedVariables false
namespace Go.Proofs.YtdcmpnjhomhhiaaGreat
open Go.RowKit

set_option maxHeartbeats 400000 in
theorem trimmed_any {D : Option Addr} {m c N : Nat} {w : World} (hm : m ≤ 9223372036854775807) (hmc : m ≤ c) (hN : Fit32 N m) (h : Cells w D m (Lm (d32 N))) :
    Calls Tryz.prog 27 #[.slice D m c] w fun e w' => ∃ D' c', e = .returned (natv D' (L32 N) c') ∧ L32 N ≤ c' ∧ Cells w' D' (L32 N) (Lm (d32 N)) ∧ Below w.heap.size w w' ∧ (D' = none ∨ D' = D) := by
  have HN := Lib.hid hN
  clear hN
  go_enter Tryz.func27, Tryz.ntmps27
  go_wp2
  go_loop [3] (fun i => ∃ k : Nat, k ≤ m ∧ i = .int .i64 k ∧ Hid (Fit32 N k)) (fun i => (intOf i).toNat)
  case atStart => exact ⟨m, Nat.le_refl _, rfl, HN⟩
  case round =>
    obtain ⟨k, hk, rfl, HK⟩ := hrel
    by_cases hk0 : 0 < k
    · obtain ⟨b, off, rfl, hlt, hc⟩ := h.lm (k := k - 1) (by omega)
      have hd0 := d32_lt N (k - 1)
      by_cases hd : d32 N (k - 1) = 0
      · have HK2 := Lib.hid (fit32_down hk0 HK.out hd)
        rw [hd] at hc
        clear hd hd0
        go_wp2
        go_round
        case rel => exact ⟨k - 1, by omega, by go_num, HK2⟩
        case measure => simp [intOf]; omega
      · have hL := Lib.hid (len32_end HK.out (.inr hd))
        have hp : 0 < (d32 N (k - 1) : Int) := by omega
        clear hd
        go_wp2
        refine bodyPost_ret (v := natv (some ⟨b, off, none⟩) k k) (by unfold natv; simp [results, Tryz.results27, go_sem]) rfl ?_
        rw [hL.out]
        refine ⟨_, _, rfl, Nat.le_refl _, (h.below ?_).sub hk, ?_, .inr rfl⟩ <;> exact (Below.refl _ _).alloc (Nat.le_refl _) _
    · obtain rfl : k = 0 := by omega
      have hL := Lib.hid (len32_end HK.out (.inl rfl))
      clear hk0
      go_wp2
      refine bodyPost_ret (v := natv none 0 0) (by unfold natv; simp [results, Tryz.results27, go_sem]) rfl ?_
      rw [hL.out]
      exact ⟨_, _, rfl, Nat.le_refl _, Cells.nil, (Below.refl _ _).alloc (Nat.le_refl _) _, .inl rfl⟩

set_option maxHeartbeats 400000 in
theorem nvalid_is {D : Option Addr} {n c : Nat} {f : Nat → Nat} {x : Bool} {w : World} (hn : n ≤ 9223372036854775807) (h : Cells w D n (Lm f)) (hx : vd n f = x) :
    Calls Tryz.prog 25 #[natv D n c] w fun e w' => e = .returned (.bool x) ∧ Below w.heap.size w w' := by
  subst hx
  unfold natv
  by_cases h64 : n ≤ 64
  · by_cases h0 : n = 0
    · subst h0
      have hv := Lib.hid (show vd 0 f = true from rfl)
      go_enter Tryz.func25, Tryz.ntmps25
      go_wp2
      go_ret
      exact ⟨ret_bool hv.out.symm, (Below.refl _ _).alloc (Nat.le_refl _) _⟩
    · obtain ⟨b, off, rfl, hlt, hc⟩ := h.lm (k := n - 1) (by omega)
      have h0n : ((n : Int) == 0) = false := by simp; omega
      cases hf : (f (n - 1) == 0) with
      | true =>
        have hf0 : f (n - 1) = 0 := by simpa using hf
        have hv := Lib.hid (show vd n f = false by unfold vd; rw [hf0]; simp; omega)
        rw [hf0] at hc
        clear hf hf0
        go_enter Tryz.func25, Tryz.ntmps25
        go_wp2
        go_ret
        exact ⟨ret_bool hv.out.symm, (Below.refl _ _).alloc (Nat.le_refl _) _⟩
      | false =>
        have hf0 : f (n - 1) ≠ 0 := by simpa using hf
        have hv := Lib.hid (show vd n f = true by unfold vd; simp [hf0, h64])
        have hp : ((f (n - 1) : Nat) : Int) ≠ 0 := by omega
        clear hf hf0
        go_enter Tryz.func25, Tryz.ntmps25
        go_wp2
        go_ret
        exact ⟨ret_bool (by rw [hv.out]; simp; omega), (Below.refl _ _).alloc (Nat.le_refl _) _⟩
  · have hv := Lib.hid (show vd n f = false by unfold vd; simp [h64])
    go_enter Tryz.func25, Tryz.ntmps25
    go_wp2
    go_ret
    exact ⟨ret_bool hv.out.symm, (Below.refl _ _).alloc (Nat.le_refl _) _⟩
/-- -1, 0, 1. -/
def cmpI (x y : Nat) : Int := if x < y then -1 else if y < x then 1 else 0
def Top32 (x y k : Nat) : Prop := x / 4294967296 ^ k = y / 4294967296 ^ k
theorem top32_eq {x y k : Nat} (h : Top32 x y (k + 1)) (hd : d32 x k = d32 y k) : Top32 x y k := Nt.cmp_eq h hd
theorem top32_lt {x y k : Nat} (h : Top32 x y (k + 1)) (hd : d32 x k < d32 y k) : x < y := Nt.cmp_lt h hd
theorem top32_gt {x y k : Nat} (h : Top32 x y (k + 1)) (hd : d32 y k < d32 x k) : y < x := Nt.cmp_lt h.symm hd
theorem top32_end {x y : Nat} (h : Top32 x y 0) : x = y := by simpa [Top32] using h
theorem top32_start {x y n : Nat} (hx : Fit32 x n) (hy : Fit32 y n) : Top32 x y n := by
  unfold Top32; rw [Nat.div_eq_of_lt hx, Nat.div_eq_of_lt hy]
theorem cmp_ltI {x y : Nat} (h : x < y) : cmpI x y = -1 := by unfold cmpI; rw [if_pos h]
theorem cmp_gtI {x y : Nat} (h : y < x) : cmpI x y = 1 := by unfold cmpI; rw [if_neg (by omega), if_pos h]
theorem cmp_eqI {x y : Nat} (h : x = y) : cmpI x y = 0 := by unfold cmpI; rw [if_neg (by omega), if_neg (by omega)]

set_option maxHeartbeats 1000000 in
theorem compare_any {D E : Option Addr} {n m c c' x y : Nat} {w : World} (hn : n ≤ 9223372036854775807) (hm : m ≤ 9223372036854775807) (hnx : n = L32 x) (hmy : m = L32 y) (hx : Cells w D n (Lm (d32 x))) (hy : Cells w E m (Lm (d32 y))) :
    Calls Tryz.prog 28 #[.slice D n c, .slice E m c'] w fun e w' => e = .returned (.int .i64 (cmpI x y)) ∧ Below w.heap.size w w' := by
  have HX := Lib.hid hnx
  have HY := Lib.hid hmy
  clear hnx hmy
  by_cases hlt : n < m
  · have hc := Lib.hid (cmp_ltI (Nt.lt_of_len (b := 4294967296) (by omega) (show L32 x < L32 y by rw [← HX.out, ← HY.out]; exact hlt)))
    go_enter Tryz.func28, Tryz.ntmps28
    go_wp2
    go_ret
    exact ⟨ret_int hc.out.symm, Below.refl _ _⟩
  by_cases hgt : m < n
  · have hc := Lib.hid (cmp_gtI (Nt.lt_of_len (b := 4294967296) (by omega) (show L32 y < L32 x by rw [← HX.out, ← HY.out]; exact hgt)))
    go_enter Tryz.func28, Tryz.ntmps28
    go_wp2
    go_ret
    exact ⟨ret_int hc.out.symm, Below.refl _ _⟩
  obtain rfl : n = m := by omega
  clear hlt hgt
  have hst := Lib.hid (top32_start (x := x) (y := y) (n := n) (by rw [HX.out]; exact fit32_len x) (by rw [HY.out]; exact fit32_len y))
  go_enter Tryz.func28, Tryz.ntmps28
  go_wp2
  go_loopw [5] (fun i wr => ∃ k : Nat, k ≤ n ∧ i = .int .i64 ((k : Int) - 1) ∧ Hid (Top32 x y k) ∧ Below w.heap.size w wr) (fun i _ => (intOf i + 1).toNat)
  case atStart => exact ⟨n, Nat.le_refl _, rfl, hst, Below.refl _ _⟩
  case round =>
    obtain ⟨k, hk, rfl, HK, hb⟩ := hrel
    by_cases hk0 : 0 < k
    · obtain ⟨j, rfl⟩ : ∃ j, k = j + 1 := ⟨k - 1, by omega⟩
      have ej : ((j + 1 : Nat) : Int) - 1 = (j : Int) := by omega
      rw [ej]
      clear ej
      obtain ⟨b1, off1, rfl, hlt1, hc1⟩ := (hx.below hb).lm (k := j) (by omega)
      obtain ⟨b2, off2, rfl, hlt2, hc2⟩ := (hy.below hb).lm (k := j) (by omega)
      have hd1 := d32_le x j
      have hd2 := d32_le y j
      have hj0 : (0 : Int) ≤ (j : Int) := by omega
      have hjn : (j : Int) < (n : Int) := by omega
      rcases Nat.lt_trichotomy (d32 x j) (d32 y j) with hd | hd | hd
      · have hc := Lib.hid (cmp_ltI (top32_lt HK.out hd))
        have hdd : decide (d32 x j < d32 y j) = true := by simp; omega
        clear hd
        go_wp2
        go_quiet (fail)
        go_wp2
        go_ret
        exact ⟨ret_int hc.out.symm, below_drewN hb _⟩
      · have HK2 := Lib.hid (top32_eq HK.out hd)
        have hdd : decide (d32 x j < d32 y j) = false := by simp; omega
        have hde : decide (d32 y j < d32 x j) = false := by simp; omega
        clear hd
        go_wp2
        go_quiet (fail)
        go_wp2
        go_quiet (fail)
        go_wp2
        go_roundw
        case rel => exact ⟨j, by omega, by go_num, HK2, below_drewN hb _⟩
        case measure => simp [intOf]
      · have hc := Lib.hid (cmp_gtI (top32_gt HK.out hd))
        have hdd : decide (d32 x j < d32 y j) = false := by simp; omega
        have hde : decide (d32 y j < d32 x j) = true := by simp; omega
        clear hd
        go_wp2
        go_quiet (fail)
        go_wp2
        go_quiet (fail)
        go_wp2
        go_ret
        exact ⟨ret_int hc.out.symm, below_drewN (below_drewN hb _) _⟩
    · obtain rfl : k = 0 := by omega
      have hc := Lib.hid (cmp_eqI (top32_end HK.out))
      clear hk0
      go_wp2
      go_ret
      exact ⟨ret_int hc.out.symm, hb⟩
end Go.Proofs.YtdcmpnjhomhhiaaGreat

/- The walks of the reference's Valid, cmp, trim, digit and Same. -/
set_option linter.unusedVariables false
namespace Go.Proofs.YtdcmpnjhomhhiaaGreat
open Go.RowKit

def Top16 (x y k : Nat) : Prop := x / 65536 ^ k = y / 65536 ^ k
theorem top16_eq {x y k : Nat} (h : Top16 x y (k + 1)) (hd : d16 x k = d16 y k) : Top16 x y k := Nt.cmp_eq h hd
theorem top16_lt {x y k : Nat} (h : Top16 x y (k + 1)) (hd : d16 x k < d16 y k) : x < y := Nt.cmp_lt h hd
theorem top16_gt {x y k : Nat} (h : Top16 x y (k + 1)) (hd : d16 y k < d16 x k) : y < x := Nt.cmp_lt h.symm hd
theorem top16_end {x y : Nat} (h : Top16 x y 0) : x = y := by simpa [Top16] using h
theorem top16_start {x y n : Nat} (hx : Fit16 x n) (hy : Fit16 y n) : Top16 x y n := by
  unfold Top16; rw [Nat.div_eq_of_lt hx, Nat.div_eq_of_lt hy]
end Go.Proofs.YtdcmpnjhomhhiaaGreat

/- Rows of one-cell elements of the call's own, made whole and written; the carries of sums. No statement is proved here. -/
set_option linter.unusedVariables false
namespace Go.Proofs.YtdcmpnjhomhhiaaGreat
open Go.RowKit

theorem row_set {m k : Nat} {F F' : Nat → Value} {u : Value} (h : ∀ j, j < m → F' j = if j = k then u else F j) : (row m F).set k u = row m F' := by
  apply List.ext_getElem?
  intro j
  by_cases hj : j < m
  · rw [row_get hj, h j hj]
    by_cases e : k = j
    · subst e; rw [List.getElem?_set_self (by rw [row_length]; exact hj), if_pos rfl]
    · rw [List.getElem?_set_ne e, row_get hj, if_neg (fun h => e h.symm)]
  · rw [List.getElem?_eq_none (by rw [List.length_set, row_length]; omega), List.getElem?_eq_none (by rw [row_length]; omega)]
theorem made_row (z : Value) (n : Nat) : (madeCells #[z] (n * 1)).toList = row (n * 1) (fun _ => z) := by
  rw [toList_madeCells_one]
  simp [row, List.map_const']
theorem made_own {w : World} {base : Nat} {e : TypeId} {v z : Value} {n : Nat} (h : w.ownsRow base e 1 v n (madeCells #[z] n).toList) : w.ownsRow base e 1 v n (row (n * 1) (fun _ => z)) := by
  rw [← made_row, Nat.mul_one]; exact h
theorem own_at {w : World} {base : Nat} {e : TypeId} {g n cap k : Nat} {F : Nat → Value} (h : w.ownsRow base e 1 (.slice (some ⟨g, 0, none⟩) n cap) n (row (n * 1) F)) (hk : k < n) :
    w.cell? ⟨g, k, none⟩ = some (F k) ∧ w.frozen? ⟨g, k, none⟩ = false :=
  ⟨(h.cellAt k (by omega)).trans (row_get (by omega)), h.frozenAt k⟩
theorem own_put {w : World} {base : Nat} {e : TypeId} {g n cap k : Nat} {F F' : Nat → Value} {u : Value} (h : w.ownsRow base e 1 (.slice (some ⟨g, 0, none⟩) n cap) n (row (n * 1) F)) (hF : ∀ j, j < n → F' j = if j = k then u else F j) :
    (w.setCell ⟨g, k, none⟩ u).ownsRow base e 1 (.slice (some ⟨g, 0, none⟩) n cap) n (row (n * 1) F') ∧ w.grownBy (w.setCell ⟨g, k, none⟩ u) (some g) := by
  have := h.stored k u
  rw [row_set (F' := F') fun j hj => hF j (by omega)] at this
  exact this
theorem own_congr {w : World} {base : Nat} {e : TypeId} {v : Value} {n : Nat} {F F' : Nat → Value} (h : w.ownsRow base e 1 v n (row (n * 1) F)) (hF : ∀ j, j < n → F j = F' j) : w.ownsRow base e 1 v n (row (n * 1) F') := by
  rw [← row_congr fun j hj => hF j (by omega)]; exact h
/-- The limbs below k are f's, the others are 0. -/
def upto (f : Nat → Nat) (k : Nat) : Nat → Nat := fun j => if j < k then f j else 0
theorem upto_next (f : Nat → Nat) (k j : Nat) : Lm (upto f (k + 1)) j = if j = k then .int .u32 (f k : Int) else Lm (upto f k) j := by
  unfold Lm upto
  by_cases e : j = k
  · subst e; rw [if_pos (by omega), if_pos rfl]
  · rw [if_neg e]
    by_cases h : j < k
    · rw [if_pos (by omega), if_pos h]
    · rw [if_neg (by omega), if_neg h]
theorem upto_at (f : Nat → Nat) (k : Nat) : upto f k k = 0 := by unfold upto; rw [if_neg (by omega)]
theorem upto_lt {f : Nat → Nat} {k j : Nat} (h : j < k) : upto f k j = f j := by unfold upto; rw [if_pos h]

def c32 (x y k : Nat) : Nat := Nt.car 4294967296 x y k
def c16 (x y k : Nat) : Nat := Nt.car 65536 x y k
theorem c32_zero (x y : Nat) : c32 x y 0 = 0 := Nt.car_zero _ x y
theorem c16_zero (x y : Nat) : c16 x y 0 = 0 := Nt.car_zero _ x y
theorem c32_le (x y k : Nat) : c32 x y k ≤ 1 := Nt.car_le (by omega) x y k
theorem c16_le (x y k : Nat) : c16 x y k ≤ 1 := Nt.car_le (by omega) x y k
theorem c32_step (x y k : Nat) : (c32 x y k : Int) + d32 x k + d32 y k = 4294967296 * c32 x y (k + 1) + d32 (x + y) k := by
  have := Nt.add_step (b := 4294967296) (by omega) x y k
  unfold c32 d32; omega
theorem c16_step (x y k : Nat) : (c16 x y k : Int) + d16 x k + d16 y k = 65536 * c16 x y (k + 1) + d16 (x + y) k := by
  have := Nt.add_step (b := 65536) (by omega) x y k
  unfold c16 d16; omega
theorem c32_top {x y n : Nat} (hx : Fit32 x n) (hy : Fit32 y n) : c32 x y n = d32 (x + y) n ∧ Fit32 (x + y) (n + 1) := Nt.car_top (by omega) hx hy
theorem c16_top {x y n : Nat} (hx : Fit16 x n) (hy : Fit16 y n) : c16 x y n = d16 (x + y) n ∧ Fit16 (x + y) (n + 1) := Nt.car_top (by omega) hx hy
theorem s32_step {x y z : Nat} (h : z + y = x) (k : Nat) :
    (d32 x k < c32 z y k + d32 y k → c32 z y (k + 1) = 1 ∧ d32 z k = d32 x k + 4294967296 - (c32 z y k + d32 y k)) ∧
    (¬ d32 x k < c32 z y k + d32 y k → c32 z y (k + 1) = 0 ∧ d32 z k = d32 x k - (c32 z y k + d32 y k)) := Nt.sub_step (b := 4294967296) (by omega) h k
theorem s16_step {x y z : Nat} (h : z + y = x) (k : Nat) :
    (d16 x k < c16 z y k + d16 y k → c16 z y (k + 1) = 1 ∧ d16 z k = d16 x k + 65536 - (c16 z y k + d16 y k)) ∧
    (¬ d16 x k < c16 z y k + d16 y k → c16 z y (k + 1) = 0 ∧ d16 z k = d16 x k - (c16 z y k + d16 y k)) := Nt.sub_step (b := 65536) (by omega) h k

def P32 (x y i : Nat) : Nat := x % 4294967296 ^ i * y
def m32 (x y i j t : Nat) : Nat := Nt.mcell 4294967296 x y i j t
def k32 (x y i j : Nat) : Nat := Nt.mcar 4294967296 x y i j
theorem P32_zero (x y : Nat) : P32 x y 0 = 0 := by simp [P32, Nat.mod_one]
theorem P32_end {x y n : Nat} (h : Fit32 x n) : P32 x y n = x * y := by unfold P32; rw [Nat.mod_eq_of_lt h]
theorem P32_fit {x y n m : Nat} (hx : Fit32 x n) (hy : Fit32 y m) : Fit32 (x * y) (n + m) := by
  have := Nt.prod_lt (b := 4294967296) (x := x) (i := n) (by omega) hy
  rw [Nat.mod_eq_of_lt hx] at this; exact this
theorem k32_zero (x y i : Nat) : k32 x y i 0 = 0 := Nt.mcar_zero (by omega) x y i
theorem k32_lt (x y i j : Nat) : k32 x y i j < 4294967296 := Nt.mcar_lt (by omega) x y i j
theorem m32_zero (x y i t : Nat) : m32 x y i 0 t = d32 (P32 x y i) t := Nt.mcell_zero (by omega) x y i t
theorem m32_old (x y i j : Nat) : m32 x y i j (i + j) = d32 (P32 x y i) (i + j) := Nt.mcell_old 4294967296 x y i j
theorem m32_lt (x y i j t : Nat) : m32 x y i j t < 4294967296 := by
  unfold m32 Nt.mcell
  split <;> exact Nt.dig_lt (by omega) _ _
theorem m32_step (x y i j : Nat) : (k32 x y i j : Int) + ((d32 x i : Int) * d32 y j + d32 (P32 x y i) (i + j)) = 4294967296 * k32 x y i (j + 1) + m32 x y i (j + 1) (i + j) := by
  have := Nt.m_step (b := 4294967296) (by omega) x y i j
  have h2 : (d32 x i : Int) * d32 y j = ((Nt.dig 4294967296 x i * Nt.dig 4294967296 y j : Nat) : Int) := by unfold d32; rw [Int.natCast_mul]
  rw [h2]
  unfold k32 m32 d32 P32; omega
theorem m32_next (x y i j t : Nat) : t ≠ i + j → m32 x y i (j + 1) t = m32 x y i j t := fun h => Nt.mcell_next (by omega) h
theorem m32_end {x y i m t : Nat} (hy : Fit32 y m) : (if t = i + m then k32 x y i m else m32 x y i m t) = d32 (P32 x y (i + 1)) t := Nt.mcell_end (by omega) hy
theorem m32_done {x y i j m t : Nat} (hy : Fit32 y m) (hj : m ≤ j) (hc : k32 x y i j = 0) : m32 x y i j t = d32 (P32 x y (i + 1)) t := Nt.mcell_done (by omega) hy hj hc
theorem k32_far {x y i j m : Nat} (hy : Fit32 y m) (hj : m < j) : k32 x y i j = 0 := Nt.mcar_far (by omega) hy hj
theorem prod32 (x y i j : Nat) : 0 ≤ (d32 x i : Int) * d32 y j ∧ (d32 x i : Int) * d32 y j ≤ 18446744065119617025 := by
  have h1 := d32_lt x i
  have h2 := d32_lt y j
  refine ⟨Int.mul_nonneg (by omega) (by omega), ?_⟩
  have : (d32 x i : Int) * d32 y j ≤ 4294967295 * 4294967295 := Int.mul_le_mul (by omega) (by omega) (by omega) (by omega)
  omega

def P16 (x y i : Nat) : Nat := x % 65536 ^ i * y
def m16 (x y i j t : Nat) : Nat := Nt.mcell 65536 x y i j t
def k16 (x y i j : Nat) : Nat := Nt.mcar 65536 x y i j
theorem P16_zero (x y : Nat) : P16 x y 0 = 0 := by simp [P16, Nat.mod_one]
theorem P16_end {x y n : Nat} (h : Fit16 x n) : P16 x y n = x * y := by unfold P16; rw [Nat.mod_eq_of_lt h]
theorem P16_fit {x y n m : Nat} (hx : Fit16 x n) (hy : Fit16 y m) : Fit16 (x * y) (n + m) := by
  have := Nt.prod_lt (b := 65536) (x := x) (i := n) (by omega) hy
  rw [Nat.mod_eq_of_lt hx] at this; exact this
theorem k16_zero (x y i : Nat) : k16 x y i 0 = 0 := Nt.mcar_zero (by omega) x y i
theorem k16_lt (x y i j : Nat) : k16 x y i j < 65536 := Nt.mcar_lt (by omega) x y i j
theorem m16_zero (x y i t : Nat) : m16 x y i 0 t = d16 (P16 x y i) t := Nt.mcell_zero (by omega) x y i t
theorem m16_old (x y i j : Nat) : m16 x y i j (i + j) = d16 (P16 x y i) (i + j) := Nt.mcell_old 65536 x y i j
theorem m16_lt (x y i j t : Nat) : m16 x y i j t < 65536 := by
  unfold m16 Nt.mcell
  split <;> exact Nt.dig_lt (by omega) _ _
theorem m16_step (x y i j : Nat) : (k16 x y i j : Int) + ((d16 x i : Int) * d16 y j + d16 (P16 x y i) (i + j)) = 65536 * k16 x y i (j + 1) + m16 x y i (j + 1) (i + j) := by
  have := Nt.m_step (b := 65536) (by omega) x y i j
  have h2 : (d16 x i : Int) * d16 y j = ((Nt.dig 65536 x i * Nt.dig 65536 y j : Nat) : Int) := by unfold d16; rw [Int.natCast_mul]
  rw [h2]
  unfold k16 m16 d16 P16; omega
theorem m16_next (x y i j t : Nat) : t ≠ i + j → m16 x y i (j + 1) t = m16 x y i j t := fun h => Nt.mcell_next (by omega) h
theorem m16_end {x y i m t : Nat} (hy : Fit16 y m) : (if t = i + m then k16 x y i m else m16 x y i m t) = d16 (P16 x y (i + 1)) t := Nt.mcell_end (by omega) hy
theorem m16_done {x y i j m t : Nat} (hy : Fit16 y m) (hj : m ≤ j) (hc : k16 x y i j = 0) : m16 x y i j t = d16 (P16 x y (i + 1)) t := Nt.mcell_done (by omega) hy hj hc
theorem k16_far {x y i j m : Nat} (hy : Fit16 y m) (hj : m < j) : k16 x y i j = 0 := Nt.mcar_far (by omega) hy hj
theorem prod16 (x y i j : Nat) : 0 ≤ (d16 x i : Int) * d16 y j ∧ (d16 x i : Int) * d16 y j ≤ 4294836225 := by
  have h1 := d16_lt x i
  have h2 := d16_lt y j
  refine ⟨Int.mul_nonneg (by omega) (by omega), ?_⟩
  have : (d16 x i : Int) * d16 y j ≤ 65535 * 65535 := Int.mul_le_mul (by omega) (by omega) (by omega) (by omega)
  omega

/-- A number as the result of a function that may overflow. -/
def NatRes (B : Nat) (w' : World) (e : Ending) (N : Nat) : Prop :=
  (L32 N ≤ 64 ∧ ∃ D c, e = .returned (.tuple #[natv D (L32 N) c, .int .i64 0]) ∧ L32 N ≤ c ∧ Cells w' D (L32 N) (Lm (d32 N)) ∧ Fresh B D) ∨
  (64 < L32 N ∧ e = .returned (.tuple #[natv none 0 0, .int .i64 9]))
theorem fresh_none {B : Nat} : Fresh B none := fun a h => by cases h
theorem Fresh.same {B : Nat} {D D' : Option Addr} (h : Fresh B D) (e : D' = none ∨ D' = D) : Fresh B D' := by
  rcases e with rfl | rfl
  · exact fresh_none
  · exact h
theorem Cells.of_same {w w1 w2 : World} {D D' : Option Addr} {m l : Nat} {G : Nat → Value} (h : Cells w D m G) (hl : l ≤ m) (hc : Cells w1 D' l G) (e : D' = none ∨ D' = D) (hb : Below w.heap.size w w2) : Cells w2 D' l G := by
  rcases e with rfl | rfl
  · intro h0
    obtain ⟨b, off, e, _⟩ := hc h0
    cases e
  · exact (h.below hb).sub hl
end Go.Proofs.YtdcmpnjhomhhiaaGreat

/- The walks of the reference's add and sub of digits. -/
set_option linter.unusedVariables false
namespace Go.Proofs.YtdcmpnjhomhhiaaGreat
open Go.RowKit

theorem Tryz.infoI : (Tryz.prog.info? 3).map (fun i => (i.zero, i.size, i.bytes)) = some (some (.int .i64 0), 1, 8) := by kernel_rfl
theorem Dg_at (f : Nat → Nat) (k : Nat) : Dg f k = .int .i64 (f k : Int) := rfl
theorem Lm_at (f : Nat → Nat) (k : Nat) : Lm f k = .int .u32 (f k : Int) := rfl

end Go.Proofs.YtdcmpnjhomhhiaaGreat
