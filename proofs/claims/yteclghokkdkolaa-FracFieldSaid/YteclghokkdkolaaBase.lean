/- Words shared by all the walks: a slice that reads as cells, kept over new memory. No statement is proved here. -/
import Derived.WalkKit
import Derived.ProofKit
import Derived.Lib.Hide
import Derived.Deep.QuietTactic
import Derived.BigQuiet
import Derived.OpenShut
import Derived.ShutString
import Derived.ChangeOld
import Derived.Below
import Derived.WalkSpells
import Derived.Deep.DeepMust
import Derived.WalkSmall
namespace Go.Proofs.Yteclghokkdkolaa
open Go.RowKit

theorem pick {α : Type} [Inhabited α] {n : Nat} {P : Nat → α → Prop} (h : ∀ i, i < n → ∃ x, P i x) : ∃ f : Nat → α, ∀ i, i < n → P i (f i) :=
  ⟨fun i => if h' : i < n then (h i h').choose else default, fun i hi => by
    show P i (if h' : i < n then (h i h').choose else default)
    rw [dif_pos hi]
    exact (h i hi).choose_spec⟩

/-- The slice with address A reads as m cells, cell j holds G j. -/
def Cells (w : World) (A : Option Addr) (m : Nat) (G : Nat → Value) : Prop :=
  0 < m → ∃ b off, A = some ⟨b, off, none⟩ ∧ b < w.heap.size ∧ ∀ j, j < m → w.cell? ⟨b, off + j, none⟩ = some (G j)

theorem Cells.below {w w' : World} {A : Option Addr} {m : Nat} {G : Nat → Value} (h : Cells w A m G) (hb : Below w.heap.size w w') : Cells w' A m G := fun hm => by
  obtain ⟨b, off, e, hlt, hc⟩ := h hm
  exact ⟨b, off, e, Nat.lt_of_lt_of_le hlt hb.size, fun j hj => (hb.cell (p := ⟨b, off + j, none⟩) hlt).trans (hc j hj)⟩
theorem Cells.nil {w : World} {A : Option Addr} {G : Nat → Value} : Cells w A 0 G := fun h => absurd h (by omega)
theorem Cells.sub {w : World} {A : Option Addr} {m m' : Nat} {G : Nat → Value} (h : Cells w A m G) (hm : m' ≤ m) : Cells w A m' G := fun h0 => by
  obtain ⟨b, off, e, hlt, hc⟩ := h (by omega)
  exact ⟨b, off, e, hlt, fun j hj => hc j (by omega)⟩

theorem Cells.mk_ {W : World} {a : Addr} {m : Nat} {G : Nat → Value} (h : ∀ j, j < m → W.cell? (a.add j) = some (G j)) : Cells W (some a) m G := fun h0 => by
  have h1 := h 0 h0
  have e0 : a.add 0 = a := rfl
  rw [e0] at h1
  have hs := World.cell?_spot h1
  obtain ⟨b, off, spot⟩ := a
  subst hs
  refine ⟨b, off, rfl, ?_, fun j hj => ?_⟩
  · rcases Nat.lt_or_ge b W.heap.size with hl | hg
    · exact hl
    · unfold World.cell? at h1
      rw [Array.getElem?_eq_none hg] at h1
      cases h1
  · have := h j hj
    have e : (Addr.mk b off none).add j = ⟨b, off + j, none⟩ := by
      unfold Addr.add
      by_cases hz : j = 0
      · subst hz; rfl
      · rw [if_neg hz]
    rw [e] at this
    exact this

theorem Cells.lit {w : World} {cs : Array Value} {t : TypeId} {g m : Nat} {G : Nat → Value} (hg : g = w.heap.size) (h : ∀ j, j < m → cs[j]? = some (G j)) : Cells (w.alloc (.cells cs t)) (some ⟨g, 0, none⟩) m G := fun _ => by
  subst hg
  refine ⟨w.heap.size, 0, rfl, by simp, fun j hj => ?_⟩
  rw [World.cell?_alloc_at _ _ _ _ rfl, Nat.zero_add]
  exact h j hj
theorem Cells.alloc {w : World} {A : Option Addr} {m : Nat} {G : Nat → Value} (h : Cells w A m G) (o : Obj) : Cells (w.alloc o) A m G := h.below ((Below.refl _ _).alloc (Nat.le_refl _) o)
theorem Below.step {B : Nat} {a w : World} (h : Below B a w) (hB : B ≤ a.heap.size) (o : Obj) : Below B a (w.alloc o) := h.alloc (Nat.le_trans hB h.size) o

/-- Structs of two ints. -/
def Two (F R : Nat → Int) : Nat → Value := fun j => if j % 2 = 0 then .int .i64 (F (j / 2)) else .int .i64 (R (j / 2))
theorem Cells.two {w : World} {A : Option Addr} {n : Nat} {F R : Nat → Int} (h : Cells w A (n * 2) (Two F R)) {k : Nat} (hk : k < n) :
    ∃ b off, A = some ⟨b, off, none⟩ ∧ b < w.heap.size ∧ w.cell? ⟨b, off + k * 2, none⟩ = some (.int .i64 (F k)) ∧ w.cell? ⟨b, off + k * 2 + 1, none⟩ = some (.int .i64 (R k)) := by
  obtain ⟨b, off, e, hlt, hc⟩ := h (by omega)
  refine ⟨b, off, e, hlt, ?_, ?_⟩
  · have := hc (k * 2) (by omega)
    unfold Two at this
    rw [if_pos (by omega), show k * 2 / 2 = k by omega] at this
    exact this
  · have := hc (k * 2 + 1) (by omega)
    unfold Two at this
    rw [if_neg (by omega), show (k * 2 + 1) / 2 = k by omega] at this
    exact this

theorem below_drewN {B : Nat} {a w : World} (h : Below B a w) (n : Nat) : Below B a (w.drewN n) := ⟨h.os, h.tape, h.output, h.size, h.block⟩
/-- From one call to the next: what lay below the first heap's size is kept. -/
theorem Below.on {w w1 w2 : World} (h : Below w.heap.size w w1) (k : Below w1.heap.size w1 w2) : Below w.heap.size w w2 := h.trans (k.mono h.size)
theorem bcell {W w1 : World} (hb : Below W.heap.size W w1) : (∀ b o, b < W.heap.size → w1.cell? ⟨b, o, none⟩ = W.cell? ⟨b, o, none⟩) ∧ (∀ b o, b < W.heap.size → w1.frozen? ⟨b, o, none⟩ = W.frozen? ⟨b, o, none⟩) :=
  ⟨fun b o h => hb.cell (p := ⟨b, o, none⟩) h, fun b o h => hb.frozen (p := ⟨b, o, none⟩) h⟩
theorem quiet_left {P : Program} {f : FuncId} {args : Array Value} {w : World} {n : Nat} {v : Value}
    (h : Calls P f args (w.drewN n) fun e w' => e = .returned v ∧ w.drewN n = w') : Calls P f args (w.drewN n) fun e w'' => e = .returned v ∧ ∃ m, w'' = w.drewN m :=
  h.mono fun _ _ ⟨he, hm⟩ => ⟨he, n, hm.symm⟩
theorem ret_int {k : IntKind} {a b : Int} (h : a = b) : Ending.returned (.int k a) = .returned (.int k b) := by rw [h]
theorem ret_bool {a b : Bool} (h : a = b) : Ending.returned (.bool a) = .returned (.bool b) := by rw [h]
theorem ret_int2 {k k' : IntKind} {a b c d : Int} (h : a = b) (h' : c = d) : Ending.returned (.tuple #[.int k a, .int k' c]) = .returned (.tuple #[.int k b, .int k' d]) := by rw [h, h']
end Go.Proofs.Yteclghokkdkolaa
