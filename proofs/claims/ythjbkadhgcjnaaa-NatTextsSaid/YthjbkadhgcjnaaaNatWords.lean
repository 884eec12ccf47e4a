/- Words for the laws of numbers: a number of one limb, results that are not too great, boxes that are kept. -/
import Derived.Test.YthjbkadhgcjnaaaNatSum
import Derived.Test.YthjbkadhgcjnaaaNatRForm
import Derived.Test.YthjbkadhgcjnaaaNatMul
set_option linter.unusedVariables false
namespace Go.Proofs.Ythjbkadhgcjnaaa
open Go.RowKit

theorem res_yes {f : FuncId} {args : Array Value} {w : World} {N : Nat} (h : Calls Try.prog f args w fun e w' => NatRes w.heap.size w' e N ∧ Below w.heap.size w w') (h64 : L32 N ≤ 64) :
    Calls Try.prog f args w fun e w' => ∃ D c, e = .returned (.tuple #[.agg #[.slice D (L32 N) c], .int .i64 0]) ∧ L32 N ≤ c ∧ Cells w' D (L32 N) (Lm (d32 N)) ∧ Below w.heap.size w w' := by
  refine h.mono ?_
  rintro e w1 ⟨⟨_, D, c, he, hl, hc, _⟩ | ⟨hn, _⟩, hb⟩
  · exact ⟨D, c, he, hl, hc, hb⟩
  · omega
theorem res_no {f : FuncId} {args : Array Value} {w : World} {N : Nat} (h : Calls Try.prog f args w fun e w' => NatRes w.heap.size w' e N ∧ Below w.heap.size w w') (h64 : 64 < L32 N) :
    Calls Try.prog f args w fun e w' => e = .returned (.tuple #[.agg #[.slice none 0 0], .int .i64 9]) ∧ Below w.heap.size w w' := by
  refine h.mono ?_
  rintro e w1 ⟨⟨hn, _⟩ | ⟨_, he⟩, hb⟩
  · omega
  · exact ⟨he, hb⟩
theorem res_sub {f : FuncId} {args : Array Value} {w : World} {N : Nat} (h : Calls Try.prog f args w fun e w' => ∃ Dr cr, e = .returned (.tuple #[natv Dr (L32 N) cr, .int .i64 0]) ∧ L32 N ≤ cr ∧ Cells w' Dr (L32 N) (Lm (d32 N)) ∧ Fresh w.heap.size Dr ∧ Below w.heap.size w w') :
    Calls Try.prog f args w fun e w' => ∃ D c, e = .returned (.tuple #[.agg #[.slice D (L32 N) c], .int .i64 0]) ∧ L32 N ≤ c ∧ Cells w' D (L32 N) (Lm (d32 N)) ∧ Below w.heap.size w w' := by
  refine h.mono ?_
  rintro e w1 ⟨D, c, he, hl, hc, _, hb⟩
  exact ⟨D, c, he, hl, hc, hb⟩
theorem res_bad {f : FuncId} {args : Array Value} {w : World} {k : Int} (h : Calls Try.prog f args w fun e w' => e = .returned (.tuple #[natv none 0 0, .int .i64 k]) ∧ Below w.heap.size w w') :
    Calls Try.prog f args w fun e w' => e = .returned (.tuple #[.agg #[.slice none 0 0], .int .i64 k]) ∧ Below w.heap.size w w' := h
theorem bl_alloc' {a w : World} (h : Below a.heap.size a w) (o : Obj) : Below a.heap.size a (w.alloc o) := h.alloc h.size o
/-- Boxes of numbers. -/
def Bxs (w : World) (l : List (Nat × Value)) : Prop := ∀ p ∈ l, Blk w p.1 24 #[p.2]
theorem Bxs.keep {w w' : World} {l : List (Nat × Value)} (h : Bxs w l) (hb : Below w.heap.size w w') : Bxs w' l := fun p hp => (h p hp).keep hb
theorem Bxs.nil (w : World) : Bxs w [] := fun p hp => by cases hp
theorem Bxs.cons {w : World} {l : List (Nat × Value)} (h : Bxs w l) (S : Value) : Bxs (w.alloc (.cells #[S] 24)) ((w.heap.size, S) :: l) := fun p hp => by
  rcases List.mem_cons.1 hp with rfl | hp
  · exact Blk.new w _ _
  · exact (h p hp).alloc _
theorem Bxs.fact {w : World} {l : List (Nat × Value)} (h : Bxs w l) {b : Nat} {S : Value} (hp : (b, S) ∈ l) : w.cell? ⟨b, 0, none⟩ = some S ∧ b < w.heap.size := ⟨(h _ hp).cell 0, (h _ hp).lt⟩

theorem L32_one {k : Nat} (h0 : 0 < k) (h1 : k < 4294967296) : L32 k = 1 := Nt.len_eq (by omega) (by omega) (.inr (by simp; omega))
theorem d32_one {k : Nat} (h1 : k < 4294967296) : d32 k 0 = k := by
  unfold d32 Nt.dig
  rw [Nat.pow_zero, Nat.div_one, Nat.mod_eq_of_lt h1]
theorem one_any (v : Int) (k : Nat) (hv : v = (k : Int)) (h0 : 0 < k) (h1 : k < 4294967296) (w : World) :
    Calls Try.prog 33 #[.int .u32 v] w fun e w' => ∃ D, e = .returned (.agg #[.slice D 1 1]) ∧ Cells w' D 1 (Lm (d32 k)) ∧ Below w.heap.size w w' := by
  subst hv
  go_enter Try.func33, Try.ntmps33
  go_wp2
  refine bodyPost_ret (v := .agg #[.slice (some ⟨w.heap.size + 1, 0, none⟩) 1 1]) (by simp [results, Try.results33, go_sem]) rfl ?_
  refine ⟨_, rfl, Cells.lit (by simp) fun j hj => ?_, ?_⟩
  · match j, hj with
    | 0, _ => unfold Lm; rw [d32_one h1]; rfl
  · exact ((Below.refl _ _).alloc (Nat.le_refl _) _).alloc (by simp) _
theorem is_yes {D : Option Addr} {c : Nat} {w : World} (v : Int) (k : Nat) (hv : v = (k : Int)) (h1 : k < 4294967296) (h : Cells w D 1 (Lm (d32 k))) :
    Calls Try.prog 45 #[.agg #[.slice D 1 c], .int .u32 v] w fun e w' => e = .returned (.bool true) ∧ Below w.heap.size w w' := by
  subst hv
  obtain ⟨b, off, rfl, hlt, hc⟩ := h.lm (show 0 < 1 by omega)
  rw [d32_one h1] at hc
  have hc : w.cell? ⟨b, off, none⟩ = some (.int .u32 (k : Int)) := hc
  go_enter Try.func45, Try.ntmps45
  go_wp2
  go_ret
  exact ⟨rfl, (Below.refl _ _).alloc (Nat.le_refl _) _⟩

theorem summed_any (w : World) : Calls Try.prog 28 #[] w fun e w' => e = .returned (.bool true) ∧ Below w.heap.size w w' := by
  have hl2 := Lib.hid (L32_one (k := 1 + 1) (by omega) (by omega))
  go_enter Try.func28, Try.ntmps28
  go_wp2_with fail
  refine (one_any 1 1 rfl (by omega) (by omega) _).mono ?_
  rintro e w1 ⟨D1, rfl, hc1, hb1⟩
  go_wp2_with fail
  refine (one_any 1 1 rfl (by omega) (by omega) _).mono ?_
  rintro e w2 ⟨D2, rfl, hc2, hb2⟩
  have HB2 := Lib.hid (Below.on hb1 hb2)
  have HC1 := Lib.hid (hc1.below hb2)
  have HC2 := Lib.hid hc2
  clear hb1 hb2 hc1 hc2
  go_wp2_with fail
  refine (res_yes (add_any (x := 1) (y := 1) (by omega) (by omega) (L32_one (by omega) (by omega)).symm (L32_one (by omega) (by omega)).symm HC1.out HC2.out) (by rw [hl2.out]; omega)).mono ?_
  rintro e w3 ⟨D3, c3, rfl, hl3, hc3, hb3⟩
  rw [hl2.out] at hl3 hc3 ⊢
  have HB3 := Lib.hid (Below.on HB2.out hb3)
  have HB4 := Lib.hid (bl_alloc' HB3.out (.cells #[.slice D3 1 c3] 24))
  have HC3 := Lib.hid (hc3.alloc (.cells #[.slice D3 1 c3] 24))
  clear hb3 hc3
  go_wp2_with fail
  refine (is_yes 2 (1 + 1) rfl (by omega) HC3.out).mono ?_
  rintro e w5 ⟨rfl, hb5⟩
  have HB5 := Lib.hid (Below.on HB4.out hb5)
  clear hb5
  go_wp2
  go_ret
  exact ⟨rfl, HB5.out⟩
theorem multiplied_any (w : World) : Calls Try.prog 14 #[] w fun e w' => e = .returned (.bool true) ∧ Below w.heap.size w w' := by
  have hl2 := Lib.hid (L32_one (k := 3 * 5) (by omega) (by omega))
  go_enter Try.func14, Try.ntmps14
  go_wp2_with fail
  refine (one_any 3 3 rfl (by omega) (by omega) _).mono ?_
  rintro e w1 ⟨D1, rfl, hc1, hb1⟩
  go_wp2_with fail
  refine (one_any 5 5 rfl (by omega) (by omega) _).mono ?_
  rintro e w2 ⟨D2, rfl, hc2, hb2⟩
  have HB2 := Lib.hid (Below.on hb1 hb2)
  have HC1 := Lib.hid (hc1.below hb2)
  have HC2 := Lib.hid hc2
  clear hb1 hb2 hc1 hc2
  go_wp2_with fail
  refine (res_yes (mul_any (x := 3) (y := 5) (by omega) (by omega) (L32_one (by omega) (by omega)).symm (L32_one (by omega) (by omega)).symm HC1.out HC2.out) (by rw [hl2.out]; omega)).mono ?_
  rintro e w3 ⟨D3, c3, rfl, hl3, hc3, hb3⟩
  rw [hl2.out] at hl3 hc3 ⊢
  have HB3 := Lib.hid (Below.on HB2.out hb3)
  have HB4 := Lib.hid (bl_alloc' HB3.out (.cells #[.slice D3 1 c3] 24))
  have HC3 := Lib.hid (hc3.alloc (.cells #[.slice D3 1 c3] 24))
  clear hb3 hc3
  go_wp2_with fail
  refine (is_yes 15 (3 * 5) rfl (by omega) HC3.out).mono ?_
  rintro e w5 ⟨rfl, hb5⟩
  have HB5 := Lib.hid (Below.on HB4.out hb5)
  clear hb5
  go_wp2
  go_ret
  exact ⟨rfl, HB5.out⟩
end Go.Proofs.Ythjbkadhgcjnaaa
