/- The walk of the law's fractions of small numbers. -/
import Derived.Test.YteclghokkdkolaaFrSame
set_option linter.unusedVariables false
namespace Go.Proofs.Yteclghokkdkolaa
open Go.RowKit
namespace Fr
theorem one_cell {w : World} {b : Nat} {t : TypeId} {d : Nat} (h : Blk w b t #[.int .u32 (d : Int)]) (hd : d < 4294967296) : Cells w (some ⟨b, 0, none⟩) 1 (Lm (d32 d)) := fun _ =>
  ⟨b, 0, rfl, h.lt, fun j hj => by
    obtain rfl : j = 0 := by omega
    refine (h.cell 0).trans ?_
    unfold Lm
    rw [d32_one hd]
    rfl⟩
abbrev TU : TypeId := 43
set_option maxHeartbeats 2000000 in
theorem small_any (w : World) {x y : Nat} (hx : x < 4294967296) (hy : y < 4294967296) (hy0 : 0 < y) :
    Calls Try.prog 34 #[.int .u32 (x : Int), .int .u32 (y : Int)] w fun e w' => ∃ D c E, e = .returned (.agg #[.slice D (L32 x) c, .slice E 1 1]) ∧ Cells w' D (L32 x) (Lm (d32 x)) ∧ Cells w' E 1 (Lm (d32 y)) ∧ Below w.heap.size w w' := by
  have bs := (((Bs.nil w).alloc TF #[.slice none 0 0, .slice (some ⟨w.heap.size + 1, 0, none⟩) 1 1]).alloc TU #[.int .u32 (y : Int)]).alloc TF #[.slice none 0 0, .slice (some ⟨w.heap.size + 1, 0, none⟩) 1 1]
  have bt := ((((Bs.nil w).alloc TF #[.slice (some ⟨w.heap.size + 1 + 1 + 1, 0, none⟩) 1 1, .slice (some ⟨w.heap.size + 1, 0, none⟩) 1 1]).alloc TU #[.int .u32 (y : Int)]).alloc TF #[.slice (some ⟨w.heap.size + 1 + 1 + 1, 0, none⟩) 1 1, .slice (some ⟨w.heap.size + 1, 0, none⟩) 1 1]).alloc TU #[.int .u32 (x : Int)]
  simp only [World.size_alloc] at bs bt
  have BS := Lib.hid bs
  have BT := Lib.hid bt
  clear bs bt
  by_cases h0 : x = 0
  · have hz : L32 x = 0 := L32_zero.2 h0
    have e0 : ((x : Int) != 0) = false := by simp; omega
    rw [hz]
    have HY := Lib.hid hy
    clear hz h0 hx hy hy0
    go_enter Try.func34, Try.ntmps34
    go_wp2
    refine bodyPost_ret (v := .agg #[.slice none 0 0, .slice (some ⟨w.heap.size + 1, 0, none⟩) 1 1]) (by simp [results, Try.results34, go_sem]) rfl ?_
    exact ⟨none, 0, _, rfl, Cells.nil, one_cell (BS.out.get (.tail _ (.head _))).2.2 HY.out, BS.out.below⟩
  · have hz : L32 x = 1 := L32_one (by omega) hx
    have e0 : ((x : Int) != 0) = true := by simp; omega
    rw [hz]
    have HY := Lib.hid hy
    have HX := Lib.hid hx
    clear hz h0 hx hy hy0
    go_enter Try.func34, Try.ntmps34
    go_wp2
    refine bodyPost_ret (v := .agg #[.slice (some ⟨w.heap.size + 1 + 1 + 1, 0, none⟩) 1 1, .slice (some ⟨w.heap.size + 1, 0, none⟩) 1 1]) (by simp [results, Try.results34, go_sem]) rfl ?_
    exact ⟨_, _, _, rfl, one_cell (BT.out.get (.head _)).2.2 HX.out, one_cell (BT.out.get (.tail _ (.tail _ (.head _)))).2.2 HY.out, BT.out.below⟩
end Fr
end Go.Proofs.Yteclghokkdkolaa
