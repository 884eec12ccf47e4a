/- Words for the laws of numbers: a number of one limb, results that are not too great, boxes that are kept. -/
import Derived.Test.YteclghokkdkolaaNatSum
import Derived.Test.YteclghokkdkolaaNatRForm
import Derived.Test.YteclghokkdkolaaNatMul
set_option linter.unusedVariables false
namespace Go.Proofs.Yteclghokkdkolaa
open Go.RowKit

theorem res_yes {f : FuncId} {args : Array Value} {w : World} {N : Nat} (h : Calls Try.prog f args w fun e w' => NatRes w.heap.size w' e N ∧ Below w.heap.size w w') (h64 : L32 N ≤ 64) :
    Calls Try.prog f args w fun e w' => ∃ D c, e = .returned (.tuple #[.agg #[.slice D (L32 N) c], .int .i64 0]) ∧ L32 N ≤ c ∧ Cells w' D (L32 N) (Lm (d32 N)) ∧ Below w.heap.size w w' := by
  refine h.mono ?_
  rintro e w1 ⟨⟨_, D, c, he, hl, hc, _⟩ | ⟨hn, _⟩, hb⟩
  · exact ⟨D, c, he, hl, hc, hb⟩
  · omega
theorem res_no {f : FuncId} {args : Array Value} {w : World} {N : Nat} (h : Calls Try.prog f args w fun e w' => NatRes w.heap.size w' e N ∧ Below w.heap.size w w') (h64 : 64 < L32 N) :
    Calls Try.prog f args w fun e w' => e = .returned (.tuple #[.agg #[.slice none 0 0], .int .i64 9]) ∧ Below w.heap.size w w' := by
  refine h.mono ?_
  rintro e w1 ⟨⟨hn, _⟩ | ⟨_, he⟩, hb⟩
  · omega
  · exact ⟨he, hb⟩
theorem res_sub {f : FuncId} {args : Array Value} {w : World} {N : Nat} (h : Calls Try.prog f args w fun e w' => ∃ Dr cr, e = .returned (.tuple #[natv Dr (L32 N) cr, .int .i64 0]) ∧ L32 N ≤ cr ∧ Cells w' Dr (L32 N) (Lm (d32 N)) ∧ Fresh w.heap.size Dr ∧ Below w.heap.size w w') :
    Calls Try.prog f args w fun e w' => ∃ D c, e = .returned (.tuple #[.agg #[.slice D (L32 N) c], .int .i64 0]) ∧ L32 N ≤ c ∧ Cells w' D (L32 N) (Lm (d32 N)) ∧ Below w.heap.size w w' := by
  refine h.mono ?_
  rintro e w1 ⟨D, c, he, hl, hc, _, hb⟩
  exact ⟨D, c, he, hl, hc, hb⟩
theorem res_bad {f : FuncId} {args : Array Value} {w : World} {k : Int} (h : Calls Try.prog f args w fun e w' => e = .returned (.tuple #[natv none 0 0, .int .i64 k]) ∧ Below w.heap.size w w') :
    Calls Try.prog f args w fun e w' => e = .returned (.tuple #[.agg #[.slice none 0 0], .int .i64 k]) ∧ Below w.heap.size w w' := h
theorem bl_alloc' {a w : World} (h : Below a.heap.size a w) (o : Obj) : Below a.heap.size a (w.alloc o) := h.alloc h.size o
/-- Boxes of numbers. -/
def Bxs (w : World) (l : List (Nat × Value)) : Prop := ∀ p ∈ l, Blk w p.1 24 #[p.2]
theorem Bxs.keep {w w' : World} {l : List (Nat × Value)} (h : Bxs w l) (hb : Below w.heap.size w w') : Bxs w' l := fun p hp => (h p hp).keep hb
theorem Bxs.nil (w : World) : Bxs w [] := fun p hp => by cases hp
theorem Bxs.cons {w : World} {l : List (Nat × Value)} (h : Bxs w l) (S : Value) : Bxs (w.alloc (.cells #[S] 24)) ((w.heap.size, S) :: l) := fun p hp => by
  rcases List.mem_cons.1 hp with rfl | hp
  · exact Blk.new w _ _
  · exact (h p hp).alloc _
theorem Bxs.fact {w : World} {l : List (Nat × Value)} (h : Bxs w l) {b : Nat} {S : Value} (hp : (b, S) ∈ l) : w.cell? ⟨b, 0, none⟩ = some S ∧ b < w.heap.size := ⟨(h _ hp).cell 0, (h _ hp).lt⟩

theorem L32_one {k : Nat} (h0 : 0 < k) (h1 : k < 4294967296) : L32 k = 1 := Nt.len_eq (by omega) (by omega) (.inr (by simp; omega))
theorem d32_one {k : Nat} (h1 : k < 4294967296) : d32 k 0 = k := by
  unfold d32 Nt.dig
  rw [Nat.pow_zero, Nat.div_one, Nat.mod_eq_of_lt h1]
end Go.Proofs.Yteclghokkdkolaa
