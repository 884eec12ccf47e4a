/- The claims and their reference side by side: what one turns, the other keeps. -/
import Derived.Test.YtpalmlcepppifaaClmRef6
import Derived.Test.YtpalmlcepppifaaClmLawO
set_option linter.unusedVariables false
namespace Go.Proofs.Ytpalmlcepppifaa
open Go.RowKit Go.Maps Go.ChangeShapes Go.WideElems Go.WideMaps

theorem Refs.kp {B : Nat} {w w1 : World} {h n : Nat} {N : Nat → ByteArray} {A F E S : Nat → Int} (c : Refs B w h n N A F E S) (k : Kp w w1) : Refs B w1 h n N A F E S := by
  obtain ⟨v, c⟩ := c
  refine ⟨v, k _ _ _ (by decide) (by decide) (by decide) c.blk, ⟨c.own.1, ?_⟩, c.hB, c.n8, c.st, c.ss⟩
  rcases c.own.2 with hn | ⟨g, cap, cur, hv, hb, hg, h3⟩
  · exact .inl hn
  · exact .inr ⟨g, cap, cur, hv, hb, k _ _ _ (by decide) (by decide) (by decide) hg, h3⟩
theorem Claims.kr {B : Nat} {w w1 : World} {h n : Nat} {N : Nat → ByteArray} {A F E S : Nat → Int} (c : Claims B w h n N A F E S) (k : Kr w w1) : Claims B w1 h n N A F E S := by
  induction k with
  | refl => exact c
  | @step u1 u2 rb hh hg hr ih =>
    obtain ⟨pv, b1, b2, D, O, c⟩ := ih
    have hne : ∀ b o, u1.heap[b]? = some o → (∀ cs, o ≠ Go.Obj.cells cs 96 (0, 0)) → (∀ cs, o ≠ Go.Obj.cells cs 98 (0, 0)) → some b ≠ rb := fun b o hb h1 h2 e => by
      obtain ⟨cs, hc⟩ := hr b e.symm
      rcases hc with hc | hc
      · exact h1 cs (by have q := hb.symm.trans hc; injection q)
      · exact h2 cs (by have q := hb.symm.trans hc; injection q)
    have ty : ∀ {c1 c2 : Array Value} {t1 t2 : TypeId}, t1 ≠ t2 → Go.Obj.cells c1 t1 (0, 0) ≠ .cells c2 t2 (0, 0) := fun h => cells_ne h
    obtain ⟨es1, ck1, hb1⟩ := map_block c.grp
    obtain ⟨es2, ck2, hb2⟩ := opn_block c.opn
    refine ⟨pv, b1, b2, D, O, c.blk.grown hg (hne _ _ c.blk (fun cs => ty (by decide)) (fun cs => ty (by decide))), c.own.kept hg ?_, grp_keep c.grp hg (fun j hj => ⟨fun cur hc => ?_, fun e => ?_⟩), c.opn.kept hg (fun e => ?_), c.hO, c.hsz, c.hD, c.hB, c.hB1, c.hB2, c.ne, c.n8, c.st⟩
    · cases hv : pv.ownBlock with
      | none => exact .inl rfl
      | some j =>
        obtain ⟨cur, hc⟩ := own_obj c.own hv
        exact .inr (hne _ _ hc (fun cs => ty (by decide)) (fun cs => ty (by decide)))
    · exact hne _ _ hc (fun cs => ty (by decide)) (fun cs => ty (by decide)) hj.symm
    · subst e; exact hne _ _ hb1 (fun cs => cells_map.symm) (fun cs => cells_map.symm) hj.symm
    · exact hne _ _ hb2 (fun cs => cells_map.symm) (fun cs => cells_map.symm) e
theorem act_kr {w w1 : World} {b : Nat} {cs : Array Value} (h : Blk w b 70 cs) (k : Kr w w1) : Blk w1 b 70 cs := by
  induction k with
  | refl => exact h
  | step _ hg hr ih =>
    refine Blk.grown ih hg fun e => ?_
    obtain ⟨cs2, hc⟩ := hr b e.symm
    unfold Blk at ih
    rcases hc with hc | hc
    · have := ih.symm.trans hc; injection this with this; injection this with _ this; revert this; decide
    · have := ih.symm.trans hc; injection this with this; injection this with _ this; revert this; decide
/-- The two, in the same state. -/
structure Both (W w : World) (h r n : Nat) (N : Nat → ByteArray) (A F E S : Nat → Int) : Prop where
  obj : Claims W.heap.size w h n N A F E S
  ref : Refs W.heap.size w r n N A F E S
  below : Below W.heap.size W w
theorem Both.size {W w : World} {h r n : Nat} {N : Nat → ByteArray} {A F E S : Nat → Int} (a : Both W w h r n N A F E S) : W.heap.size ≤ w.heap.size := a.below.size
theorem Both.keep {W w w1 : World} {h r n : Nat} {N : Nat → ByteArray} {A F E S : Nat → Int} (a : Both W w h r n N A F E S) (k : Below w.heap.size w w1) : Both W w1 h r n N A F E S := ⟨a.obj.keep k, a.ref.keep k, Below.on a.below k⟩
/-- Half-way: the claims have done their step, the reference has not. -/
structure Half (W w : World) (h r n n' : Nat) (N N' : Nat → ByteArray) (A F E S A' F' E' S' : Nat → Int) : Prop where
  obj : Claims W.heap.size w h n' N' A' F' E' S'
  ref : Refs W.heap.size w r n N A F E S
  below : Below W.heap.size W w
theorem Half.size {W w : World} {h r n n' : Nat} {N N' : Nat → ByteArray} {A F E S A' F' E' S' : Nat → Int} (a : Half W w h r n n' N N' A F E S A' F' E' S') : W.heap.size ≤ w.heap.size := a.below.size
theorem Both.half {W w w1 : World} {h r n n' : Nat} {N N' : Nat → ByteArray} {A F E S A' F' E' S' : Nat → Int} {v : Value} {e : Ending} (a : Both W w h r n N A F E S) (k : CLeft W.heap.size w h n' N' A' F' E' S' v e w1) : Half W w1 h r n n' N N' A F E S A' F' E' S' :=
  ⟨k.2.1, a.ref.kp k.2.2.2, a.below.trans k.2.2.1⟩
theorem Half.full {W w w1 : World} {h r n n' : Nat} {N N' : Nat → ByteArray} {A F E S A' F' E' S' : Nat → Int} {v : Value} {e : Ending} (a : Half W w h r n n' N N' A F E S A' F' E' S') (k : FLeft W.heap.size w r n' N' A' F' E' S' v e w1) : Both W w1 h r n' N' A' F' E' S' :=
  ⟨a.obj.kr k.2.2.2, k.2.1, a.below.trans k.2.2.1⟩
/-- The other way about. -/
structure Hind (W w : World) (h r n n' : Nat) (N N' : Nat → ByteArray) (A F E S A' F' E' S' : Nat → Int) : Prop where
  obj : Claims W.heap.size w h n N A F E S
  ref : Refs W.heap.size w r n' N' A' F' E' S'
  below : Below W.heap.size W w
theorem Both.hind {W w w1 : World} {h r n n' : Nat} {N N' : Nat → ByteArray} {A F E S A' F' E' S' : Nat → Int} {v : Value} {e : Ending} (a : Both W w h r n N A F E S) (k : FLeft W.heap.size w r n' N' A' F' E' S' v e w1) : Hind W w1 h r n n' N N' A F E S A' F' E' S' :=
  ⟨a.obj.kr k.2.2.2, k.2.1, a.below.trans k.2.2.1⟩
theorem Hind.full {W w w1 : World} {h r n n' : Nat} {N N' : Nat → ByteArray} {A F E S A' F' E' S' : Nat → Int} {v : Value} {e : Ending} (a : Hind W w h r n n' N N' A F E S A' F' E' S') (k : CLeft W.heap.size w h n' N' A' F' E' S' v e w1) : Both W w1 h r n' N' A' F' E' S' :=
  ⟨k.2.1, a.ref.kp k.2.2.2, a.below.trans k.2.2.1⟩
end Go.Proofs.Ytpalmlcepppifaa
