/- The walk of the law PayoutLooks. -/
import Derived.Test.YtjifpiaianmmbaaPayRefExact
set_option linter.unusedVariables false
namespace Go.Proofs.Ytjifpiaianmmbaa
open Go.RowKit

/-- Behind one more block, which is kept. -/
structure Bx (W w : World) : Prop where
  below : Below W.heap.size W w
  more : W.heap.size < w.heap.size
theorem Bx.drewN {W w : World} (h : Bx W w) (k : Nat) : Bx W (w.drewN k) := ⟨below_drewN h.below k, h.more⟩
theorem Bx.on {W w w1 : World} (h : Bx W w) (k : Below w.heap.size w w1) : Bx W w1 := ⟨Below.on h.below k, Nat.lt_of_lt_of_le h.more k.size⟩
theorem Bx.cell {W w w1 : World} (h : Bx W w) (k : Below w.heap.size w w1) {o : Nat} {a : Value} (hc : w.cell? ⟨W.heap.size, o, none⟩ = some a) : w1.cell? ⟨W.heap.size, o, none⟩ = some a := by
  rw [k.cell (p := ⟨W.heap.size, o, none⟩) h.more]; exact hc

/-- The order's box. -/
structure Box (W w : World) (g t : Int) (s : Value) (l : Int) : Prop where
  bx : Bx W w
  c0 : w.cell? ⟨W.heap.size, 0, none⟩ = some (.int .i64 g)
  c1 : w.cell? ⟨W.heap.size, 1, none⟩ = some (.int .i64 t)
  c2 : w.cell? ⟨W.heap.size, 2, none⟩ = some s
  c3 : w.cell? ⟨W.heap.size, 3, none⟩ = some (.int .i64 l)
theorem Box.on {W w w1 : World} {g t : Int} {s : Value} {l : Int} (h : Box W w g t s l) (k : Below w.heap.size w w1) : Box W w1 g t s l :=
  ⟨h.bx.on k, h.bx.cell k h.c0, h.bx.cell k h.c1, h.bx.cell k h.c2, h.bx.cell k h.c3⟩
theorem Box.drewN {W w : World} {g t : Int} {s : Value} {l : Int} (h : Box W w g t s l) (k : Nat) : Box W (w.drewN k) g t s l := ⟨h.bx.drewN k, h.c0, h.c1, h.c2, h.c3⟩

theorem Box.drew {W w : World} {g t : Int} {s : Value} {l : Int} (h : Box W w g t s l) : Box W w.drew g t s l := ⟨⟨⟨h.bx.below.os, h.bx.below.tape, h.bx.below.output, h.bx.below.size, h.bx.below.block⟩, h.bx.more⟩, h.c0, h.c1, h.c2, h.c3⟩

theorem Box.all {W w : World} {g t : Int} {s : Value} {l : Int} (h : Box W w g t s l) : w.cell? ⟨W.heap.size, 0, none⟩ = some (.int .i64 g) ∧ w.cell? ⟨W.heap.size, 1, none⟩ = some (.int .i64 t) ∧ w.cell? ⟨W.heap.size, 2, none⟩ = some s ∧ w.cell? ⟨W.heap.size, 3, none⟩ = some (.int .i64 l) ∧ Box W w g t s l := ⟨h.c0, h.c1, h.c2, h.c3, h⟩
theorem exact_box {W w : World} {g t l : Int} {D : Option Addr} {n c : Nat} {O : Nat → Int} {s : Value} {x : Bool} (hx : x = Ex.exact g t n O l) (hn : n ≤ 9223372036854775807) (hD : Cells W D (n * 1) (Ints O)) (h : Box W w g t s l) :
    Calls Try.prog 14 #[.agg #[.int .i64 g, .int .i64 t, .slice D n c, .int .i64 l]] w fun e w' => e = .returned (.bool x) ∧ w'.cell? ⟨W.heap.size, 0, none⟩ = some (.int .i64 g) ∧ w'.cell? ⟨W.heap.size, 1, none⟩ = some (.int .i64 t) ∧ w'.cell? ⟨W.heap.size, 2, none⟩ = some s ∧ w'.cell? ⟨W.heap.size, 3, none⟩ = some (.int .i64 l) ∧ Box W w' g t s l := by
  refine (exact_any hn (hD.below h.bx.below)).mono ?_
  rintro e w1 ⟨rfl, hb⟩
  have k := h.on hb
  exact ⟨by rw [hx], k.c0, k.c1, k.c2, k.c3, k⟩
theorem refExact_box {W w : World} {g t l : Int} {D : Option Addr} {n c : Nat} {O : Nat → Int} {s : Value} {x : Bool} (hx : x = Ex.exact g t n O l) (hn : n ≤ 9223372036854775807) (hD : Cells W D (n * 1) (Ints O)) (h : Box W w g t s l) :
    Calls Try.prog 15 #[.agg #[.int .i64 g, .int .i64 t, .slice D n c, .int .i64 l]] w fun e w' => e = .returned (.bool x) ∧ w'.cell? ⟨W.heap.size, 0, none⟩ = some (.int .i64 g) ∧ w'.cell? ⟨W.heap.size, 1, none⟩ = some (.int .i64 t) ∧ w'.cell? ⟨W.heap.size, 2, none⟩ = some s ∧ w'.cell? ⟨W.heap.size, 3, none⟩ = some (.int .i64 l) ∧ Box W w' g t s l := by
  refine (refExact_any hn (hD.below h.bx.below)).mono ?_
  rintro e w1 ⟨rfl, hb⟩
  have k := h.on hb
  exact ⟨by rw [hx], k.c0, k.c1, k.c2, k.c3, k⟩
theorem works_box {W w : World} {g t l : Int} {s : Value} (h : Box W w g t s l) :
    Calls Try.prog 13 #[] w fun e w' => e = .returned (.bool true) ∧ w'.cell? ⟨W.heap.size, 0, none⟩ = some (.int .i64 g) ∧ w'.cell? ⟨W.heap.size, 1, none⟩ = some (.int .i64 t) ∧ w'.cell? ⟨W.heap.size, 2, none⟩ = some s ∧ w'.cell? ⟨W.heap.size, 3, none⟩ = some (.int .i64 l) ∧ Box W w' g t s l := by
  refine (works47 _).mono ?_
  rintro e w1 ⟨rfl, hb⟩
  have k := h.on hb
  exact ⟨rfl, k.c0, k.c1, k.c2, k.c3, k⟩

set_option maxHeartbeats 2000000 in
set_option maxRecDepth 100000 in
theorem payoutLooks_walk (W : World) {g t l : Int} {D : Option Addr} {n c : Nat} {O : Nat → Int} (hn : n ≤ c) (hc : c ≤ maxLen) (hD : Cells W D (n * 1) (Ints O)) :
    Calls Try.prog 7 #[.agg #[.int .i64 g, .int .i64 t, .slice D n c, .int .i64 l]] W fun e w' => e = .returned (.bool true) ∧ Below W.heap.size W w' := by
  unfold maxLen at hc
  by_cases h20 : 20 < n
  · have h20i : (20 : Int) < (n : Int) := by omega
    have h20c : (20 : Int) ≤ (c : Int) := by omega
    have hD2 := hD.sub (m' := 20 * 1) (by omega)
    obtain ⟨x, hx⟩ : ∃ x, x = Ex.exact g t 20 O l := ⟨_, rfl⟩
    have HX := Lib.hid hx
    clear hx
    have hb0 : Box W (W.alloc (.cells #[.int .i64 g, .int .i64 t, .slice D 20 c, .int .i64 l] 27)) g t (.slice D 20 c) l := by
      refine ⟨⟨(Below.refl W.heap.size W).alloc (Nat.le_refl _) _, by simp⟩, ?_, ?_, ?_, ?_⟩
      all_goals (rw [World.cell?_alloc_at _ _ _ _ rfl]; rfl)
    go_enter Try.func7, Try.ntmps7
    go_wp2_with fail
    generalize W.alloc (.cells #[.int .i64 g, .int .i64 t, .slice D 20 c, .int .i64 l] 27) = W2 at hb0 ⊢
    have c0 := hb0.c0
    have c1 := hb0.c1
    have c2 := hb0.c2
    have c3 := hb0.c3
    have hbd := hb0.drew
    go_region_held3 (fun w' => w'.cell? ⟨W.heap.size, 0, none⟩ = some (.int .i64 g) ∧ w'.cell? ⟨W.heap.size, 1, none⟩ = some (.int .i64 t) ∧ w'.cell? ⟨W.heap.size, 2, none⟩ = some (.slice D 20 c) ∧ w'.cell? ⟨W.heap.size, 3, none⟩ = some (.int .i64 l) ∧ Box W w' g t (.slice D 20 c) l)
      (first
        | go_keep
        | (refine ⟨?_, ?_, ?_, ?_, ?_⟩ <;> first | assumption | exact Box.drew (by assumption) | exact Box.drewN (by assumption) _))
      (first
        | (go_at_call 14; refine (exact_box (W := W) (O := O) (x := x) (s := .slice D 20 c) HX.out (by omega) hD2 ?_).mono ?_; (first | assumption | exact Box.drew (by assumption) | exact Box.drewN (by assumption) _); rintro e w5 ⟨rfl, d0, d1, d2, d3, hbx⟩)
        | (go_at_call 15; refine (refExact_box (W := W) (O := O) (x := x) (s := .slice D 20 c) HX.out (by omega) hD2 ?_).mono ?_; (first | assumption | exact Box.drew (by assumption) | exact Box.drewN (by assumption) _); rintro e w6 ⟨rfl, d0, d1, d2, d3, hbx⟩)
        | (go_at_call 13; refine (works_box (W := W) (g := g) (t := t) (l := l) (s := .slice D 20 c) ?_).mono ?_; (first | assumption | exact Box.drew (by assumption) | exact Box.drewN (by assumption) _); rintro e w7 ⟨rfl, d0, d1, d2, d3, hbx⟩))
    all_goals
      go_wp2
      go_ret
      exact ⟨rfl, hbx.bx.below⟩
  · have hni : (n : Int) ≤ (c : Int) := by omega
    have hnz : (0 : Int) ≤ (n : Int) := by omega
    have h20i : ((20 : Int) < (n : Int)) = False := eq_false (by omega)
    have hD2 := hD
    have hn20 : n ≤ 9223372036854775807 := by omega
    obtain ⟨x, hx⟩ : ∃ x, x = Ex.exact g t n O l := ⟨_, rfl⟩
    have HX := Lib.hid hx
    clear hx
    have hb0 : Box W (W.alloc (.cells #[.int .i64 g, .int .i64 t, .slice D n c, .int .i64 l] 27)) g t (.slice D n c) l := by
      refine ⟨⟨(Below.refl W.heap.size W).alloc (Nat.le_refl _) _, by simp⟩, ?_, ?_, ?_, ?_⟩
      all_goals (rw [World.cell?_alloc_at _ _ _ _ rfl]; rfl)
    go_enter Try.func7, Try.ntmps7
    go_wp2_with fail
    generalize W.alloc (.cells #[.int .i64 g, .int .i64 t, .slice D n c, .int .i64 l] 27) = W2 at hb0 ⊢
    have c0 := hb0.c0
    have c1 := hb0.c1
    have c2 := hb0.c2
    have c3 := hb0.c3
    have hbd := hb0.drew
    go_region_held3 (fun w' => w'.cell? ⟨W.heap.size, 0, none⟩ = some (.int .i64 g) ∧ w'.cell? ⟨W.heap.size, 1, none⟩ = some (.int .i64 t) ∧ w'.cell? ⟨W.heap.size, 2, none⟩ = some (.slice D n c) ∧ w'.cell? ⟨W.heap.size, 3, none⟩ = some (.int .i64 l) ∧ Box W w' g t (.slice D n c) l)
      (first
        | go_keep
        | (refine ⟨?_, ?_, ?_, ?_, ?_⟩ <;> first | assumption | exact Box.drew (by assumption) | exact Box.drewN (by assumption) _))
      (first
        | (go_at_call 14; refine (exact_box (W := W) (O := O) (x := x) (s := .slice D n c) HX.out hn20 hD2 ?_).mono ?_; (first | assumption | exact Box.drew (by assumption) | exact Box.drewN (by assumption) _); rintro e w5 ⟨rfl, d0, d1, d2, d3, hbx⟩)
        | (go_at_call 15; refine (refExact_box (W := W) (O := O) (x := x) (s := .slice D n c) HX.out hn20 hD2 ?_).mono ?_; (first | assumption | exact Box.drew (by assumption) | exact Box.drewN (by assumption) _); rintro e w6 ⟨rfl, d0, d1, d2, d3, hbx⟩)
        | (go_at_call 13; refine (works_box (W := W) (g := g) (t := t) (l := l) (s := .slice D n c) ?_).mono ?_; (first | assumption | exact Box.drew (by assumption) | exact Box.drewN (by assumption) _); rintro e w7 ⟨rfl, d0, d1, d2, d3, hbx⟩))
    all_goals
      go_wp2
      go_ret
      exact ⟨rfl, hbx.bx.below⟩
end Go.Proofs.Ytjifpiaianmmbaa
