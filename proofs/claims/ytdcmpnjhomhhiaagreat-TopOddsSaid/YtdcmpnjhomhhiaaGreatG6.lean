/- Several texts in one. -/
import Derived.Test.YtdcmpnjhomhhiaaGreatNatGcd
import Derived.Test.YtdcmpnjhomhhiaaGreatG10
import Derived.Test.YtdcmpnjhomhhiaaGreatNatDivBad
import Derived.Test.YtdcmpnjhomhhiaaGreatBox
import Derived.Deep.RegionHeld3
import Derived.Deep.RegionLaw
/- Words for the walks of frac: a list of blocks of one's own that stay as they are; a fraction's value. -/
set_option linter.unusedVariables false
namespace Go.Proofs.YtdcmpnjhomhhiaaGreat
open Go.RowKit
namespace Fr
/-- A fraction by value. -/
def fv (D : Option Addr) (n c : Nat) (E : Option Addr) (m c' : Nat) : Value := .agg #[.slice D n c, .slice E m c']
/-- Blocks of the call's own, and that all below stays. -/
structure Bs (w0 w : World) (l : List (Nat × TypeId × Array Value)) : Prop where
  below : Below w0.heap.size w0 w
  blk : ∀ b t cs, (b, t, cs) ∈ l → w0.heap.size ≤ b ∧ Blk w b t cs
section
variable {w0 w w' : World} {l : List (Nat × TypeId × Array Value)}
theorem Bs.nil (w : World) : Bs w w [] := ⟨Below.refl _ _, fun _ _ _ h => by cases h⟩
theorem Bs.on (h : Bs w0 w l) (k : Below w.heap.size w w') : Bs w0 w' l := ⟨Below.on h.below k, fun b t cs hb => ⟨(h.blk b t cs hb).1, (h.blk b t cs hb).2.keep k⟩⟩
theorem Bs.drew (h : Bs w0 w l) : Bs w0 w.drew l := h.on (Below.refl _ _).drew
theorem Bs.alloc (h : Bs w0 w l) (t : TypeId) (cs : Array Value) : Bs w0 (w.alloc (.cells cs t)) ((w.heap.size, t, cs) :: l) := by
  refine ⟨h.below.alloc h.below.size _, fun b t' cs' hb => ?_⟩
  rcases List.mem_cons.1 hb with e | hb
  · injection e with e1 e2
    injection e2 with e2 e3
    subst e1 e2 e3
    exact ⟨h.below.size, Blk.new w _ _⟩
  · exact ⟨(h.blk b t' cs' hb).1, (h.blk b t' cs' hb).2.alloc _⟩
theorem Bs.sub {l' : List (Nat × TypeId × Array Value)} (h : Bs w0 w l) (hs : ∀ x, x ∈ l' → x ∈ l) : Bs w0 w l' := ⟨h.below, fun b t cs hb => h.blk b t cs (hs _ hb)⟩
theorem Bs.get (h : Bs w0 w l) {b : Nat} {t : TypeId} {cs : Array Value} (hm : (b, t, cs) ∈ l) : w0.heap.size ≤ b ∧ b < w.heap.size ∧ Blk w b t cs := ⟨(h.blk _ _ _ hm).1, (h.blk _ _ _ hm).2.lt, (h.blk _ _ _ hm).2⟩
/-- A store into the first block. -/
theorem Bs.put {b : Nat} {t : TypeId} {cs : Array Value} (h : Bs w0 w ((b, t, cs) :: l)) (hne : ∀ b' t' cs', (b', t', cs') ∈ l → b' ≠ b) (i : Nat) (u : Value) : Bs w0 (w.setCell ⟨b, i, none⟩ u) ((b, t, cs.setIfInBounds i u) :: l) := by
  have h0 := h.blk b t cs (List.mem_cons_self ..)
  refine ⟨h.below.setCell (p := ⟨b, i, none⟩) h0.1 u, fun b' t' cs' hb => ?_⟩
  rcases List.mem_cons.1 hb with e | hb
  · injection e with e1 e2
    injection e2 with e2 e3
    subst e1 e2 e3
    exact ⟨h0.1, h0.2.set_ i u⟩
  · have h1 := h.blk b' t' cs' (List.mem_cons_of_mem _ hb)
    exact ⟨h1.1, h1.2.other (hne b' t' cs' hb) u⟩
end
/-- The result of a call that makes a fraction. -/
def Res (B : Nat) (w' : World) (e : Ending) (a b : Nat) : Prop :=
  ∃ D c E c', e = .returned (.tuple #[fv D (L32 a) c E (L32 b) c', .int .i64 0]) ∧ L32 a ≤ c ∧ L32 b ≤ c' ∧ Cells w' D (L32 a) (Lm (d32 a)) ∧ Cells w' E (L32 b) (Lm (d32 b)) ∧ Fresh B D ∧ Fresh B E
/-- A call that refuses. -/
def Err (e : Ending) (y : Nat) : Prop := e = .returned (.tuple #[fv none 0 0 none 0 0, .int .i64 (y : Int)])
theorem len_div {x g : Nat} (hx : L32 x ≤ 64) : L32 (x / g) ≤ 64 := Nat.le_trans (Nt.len_mono (by omega) (Nat.div_le_self x g)) hx
end Fr
end Go.Proofs.YtdcmpnjhomhhiaaGreat

/- The walk of frac.Make. -/
set_option linter.unusedVariables false
namespace Go.Proofs.YtdcmpnjhomhhiaaGreat
open Go.RowKit
namespace Fr
theorem ends2 {w w5 : World} {z : Nat} (h : Below w.heap.size w w5) (hz : w.heap.size ≤ z) (a b : Value) (o o2 : Go.Obj) : Below w.heap.size w ((((w5.setCell ⟨z, 0, none⟩ a).setCell ⟨z, 1, none⟩ b).alloc o).alloc o2) :=
  bl_alloc (bl_alloc ((h.setCell (p := ⟨z, 0, none⟩) hz a).setCell (p := ⟨z, 1, none⟩) hz b) _) _
end Fr
end Go.Proofs.YtdcmpnjhomhhiaaGreat

/- The walk of frac.Valid. -/
set_option linter.unusedVariables false
namespace Go.Proofs.YtdcmpnjhomhhiaaGreat
open Go.RowKit
namespace Fr
/-- Is x / y a valid fraction? -/
def fok (x y : Nat) : Bool := decide (0 < y) && (Nat.gcd x y == 1)
end Fr
end Go.Proofs.YtdcmpnjhomhhiaaGreat

/- The walk of frac.products. -/
set_option linter.unusedVariables false
namespace Go.Proofs.YtdcmpnjhomhhiaaGreat
open Go.RowKit
namespace Fr
/-- Two products, or an overflow. -/
def Two2 (B : Nat) (w' : World) (e : Ending) (p q : Nat) : Prop :=
  (L32 p ≤ 64 ∧ L32 q ≤ 64 ∧ ∃ D c E c', e = .returned (.tuple #[natv D (L32 p) c, natv E (L32 q) c', .int .i64 0]) ∧ L32 p ≤ c ∧ L32 q ≤ c' ∧ Cells w' D (L32 p) (Lm (d32 p)) ∧ Cells w' E (L32 q) (Lm (d32 q)) ∧ Fresh B D ∧ Fresh B E) ∨
  ((64 < L32 p ∨ 64 < L32 q) ∧ e = .returned (.tuple #[natv none 0 0, natv none 0 0, .int .i64 9]))
theorem bse {B : Nat} {w w' : World} (h : Below B w w') {b : Nat} (hb : B ≤ b) (i : Nat) (u : Value) : Below B w (w'.setCell ⟨b, i, none⟩ u) := h.setCell (p := ⟨b, i, none⟩) hb u
abbrev TN : TypeId := 34
theorem boxes6 (w : World) (S T U V : Value) : Bs w ((((((w.alloc (.cells #[S] TN)).alloc (.cells #[T] TN)).alloc (.cells #[U] TN)).alloc (.cells #[V] TN)).alloc (.cells #[.slice none 0 0] TN)).alloc (.cells #[.slice none 0 0] TN))
    [(w.heap.size + 1 + 1 + 1 + 1 + 1, TN, #[.slice none 0 0]), (w.heap.size + 1 + 1 + 1 + 1, TN, #[.slice none 0 0]), (w.heap.size + 1 + 1 + 1, TN, #[V]), (w.heap.size + 1 + 1, TN, #[U]), (w.heap.size + 1, TN, #[T]), (w.heap.size, TN, #[S])] := by
  have := ((((((Bs.nil w).alloc TN #[S]).alloc TN #[T]).alloc TN #[U]).alloc TN #[V]).alloc TN #[.slice none 0 0]).alloc TN #[.slice none 0 0]
  simp only [World.size_alloc] at this
  exact this
end Fr
end Go.Proofs.YtdcmpnjhomhhiaaGreat
