/- The examples of the chapter on retailers: awake returns true. -/
import Derived.Test.YtpalmlcepppifaaRetCall
import Derived.Laws.StructEq
set_option linter.unusedVariables false
namespace Go.Proofs.Ytpalmlcepppifaa
open Go.RowKit

def T0 : Rt.Tm := ⟨500, 100, 1000, 2000, 5000⟩
theorem T0_ok : Rt.okT T0 := by unfold Rt.okT Rt.rate Rt.amt T0; simp
/-- The state behind k calls. -/
def xAt (k : Nat) : Rt.St := if k = 0 then Rt.zero else if k = 1 then ⟨3000, 0, 0⟩ else if k = 2 then ⟨3000, 200, 0⟩ else ⟨3000, 200, 1000⟩
theorem xAt_ok (k : Nat) : Rt.okS (xAt k) := by 
  unfold xAt
  split
  · exact Rt.okS_zero
  · split
    · unfold Rt.okS Rt.amt; simp
    · split
      · unfold Rt.okS Rt.amt; simp
      · unfold Rt.okS Rt.amt; simp

theorem act_at {w : World} {g : Nat} {t : Rt.Tm} {x x' : Rt.St} {k a y : Int} {V : Array Value} (h : Obj w g t x) (ht : Rt.okT t) (hx : Rt.okS x) (h1 : Rt.nxt t x k a = x') (h2 : Rt.err t x k a = y) (h3 : outC t x k = V) :
    Calls Try.prog 28 #[.pointer (some ⟨g, 0, none⟩), .agg #[.int .i64 k, .int .i64 a]] w (Told w g t x' (.tuple #[.int .i64 y, .agg V])) := by
  subst h1 h2 h3; exact act_any h ht hx
theorem open_at {w : World} {g : Nat} {t : Rt.Tm} {x : Rt.St} {V : Array Value} (h : Obj w g t x) (ht : Rt.okT t) (hx : Rt.okS x) (hV : setC t x = V) :
    Calls Try.prog 26 #[.pointer (some ⟨g, 0, none⟩)] w fun e w' => e = .returned (.agg V) ∧ Below w.heap.size w w' := by
  subst hV; exact open_any h ht hx
theorem settle_at {w : World} {g : Nat} {t : Rt.Tm} {x : Rt.St} {V : Array Value} (h : Obj w g t x) (ht : Rt.okT t) (hx : Rt.okS x) (hV : setC t x = V) :
    Calls Try.prog 35 #[.pointer (some ⟨g, 0, none⟩)] w (Told w g t Rt.zero (.agg V)) := by
  subst hV; exact settle_any h ht hx
theorem sale_at {w : World} {g : Nat} {t : Rt.Tm} {x x' : Rt.St} {a y : Int} (h : Obj w g t x) (ht : Rt.okT t) (hx : Rt.okS x) (h1 : Rt.nxt t x 0 a = x') (h2 : Rt.sErr t x a = y) :
    Calls Try.prog 32 #[.pointer (some ⟨g, 0, none⟩), .int .i64 a] w (Left w g t x' y) := by
  subst h1 h2; exact sale_any h ht hx
theorem refund_at {w : World} {g : Nat} {t : Rt.Tm} {x x' : Rt.St} {a y : Int} (h : Obj w g t x) (hx : Rt.okS x) (h1 : Rt.nxt t x 1 a = x') (h2 : Rt.room x.r a = y) :
    Calls Try.prog 33 #[.pointer (some ⟨g, 0, none⟩), .int .i64 a] w (Left w g t x' y) := by
  subst h1 h2; exact refund_any h hx

theorem below_only {B g : Nat} {w0 w w' : World} (h : Below B w0 w) (k : w.grownBy w' (some g)) (hg : B ≤ g) (hB : B ≤ w.heap.size) : Below B w0 w' :=
  ⟨k.os.trans h.os, k.tape.trans h.tape, k.output.trans h.output, Nat.le_trans h.size k.size, fun i hi => (k.block i (by omega) (by simp; omega)).trans (h.block i hi)⟩

set_option maxHeartbeats 2000000 in
set_option maxRecDepth 100000 in
theorem awake49 (w : World) : Calls Try.prog 27 #[] w fun e w' => e = .returned (.bool true) ∧ Below w.heap.size w w' := by
  go_enter Try.func27, Try.ntmps27
  go_wp2_with fail
  refine (new_ok (t := T0) T0_ok).mono ?_
  rintro e w1 ⟨g, rfl, hg, ho, hb⟩
  have hgl := ho.lt
  have hL : Blk (w1.alloc (.cells #[.int .i64 0, .int .i64 3000, .int .i64 1, .int .i64 200, .int .i64 2, .int .i64 1000] 51)) w1.heap.size 51 #[.int .i64 0, .int .i64 3000, .int .i64 1, .int .i64 200, .int .i64 2, .int .i64 1000] := Blk.new w1 _ _
  have ho2 : Obj (w1.alloc (.cells #[.int .i64 0, .int .i64 3000, .int .i64 1, .int .i64 200, .int .i64 2, .int .i64 1000] 51)) g T0 Rt.zero := ho.alloc _
  have hb2 := hb.alloc hb.size (.cells #[.int .i64 0, .int .i64 3000, .int .i64 1, .int .i64 200, .int .i64 2, .int .i64 1000] 51)
  obtain ⟨L, hLe⟩ : ∃ L, L = w1.heap.size := ⟨_, rfl⟩
  rw [← hLe] at hL
  have hgL : g ≠ L := by omega
  have HL := Lib.hid hL
  have HO := Lib.hid ho2
  have HB := Lib.hid hb2
  have HLE := Lib.hid hLe
  clear ho hb hL ho2 hb2 hLe
  go_wp2_with fail
  rw [← HLE.out]
  go_loopw [4] (fun i wr => ∃ k : Nat, k ≤ 3 ∧ i = .int .i64 k ∧ Obj wr g T0 (xAt k) ∧ Below w.heap.size w wr ∧ Blk wr L 51 #[.int .i64 0, .int .i64 3000, .int .i64 1, .int .i64 200, .int .i64 2, .int .i64 1000]) (fun i _ => 3 - (intOf i).toNat)
  case atStart => exact ⟨0, by omega, rfl, HO.out, HB.out, HL.out⟩
  case round =>
    obtain ⟨k, hk, rfl, hO, hB, hLL⟩ := hrel
    have q0 := hLL.cell 0
    have q1 := hLL.cell 1
    have q2 := hLL.cell 2
    have q3 := hLL.cell 3
    have q4 := hLL.cell 4
    have q5 := hLL.cell 5
    simp at q0 q1 q2 q3 q4 q5
    have hgw := hO.lt
    have hsz := hB.size
    have HO := Lib.hid hO
    have HB := Lib.hid hB
    have HLL := Lib.hid hLL
    clear hO hB hLL
    rcases (show k = 0 ∨ k = 1 ∨ k = 2 ∨ k = 3 by omega) with rfl | rfl | rfl | rfl
    · go_wp2_with fail
      refine (act_at (x' := ⟨3000, 0, 0⟩) (y := 0) (V := zeroC) HO.out T0_ok (xAt_ok 0) rfl rfl rfl).mono ?_
      rintro e w2 ⟨rfl, hO2, hb2⟩
      unfold zeroC
      have hO3 := HLL.out.grown hb2 (by simp; omega)
      have HB2 := Lib.hid (below_only HB.out hb2 hg hsz)
      have HO2 := Lib.hid hO2
      have HL2 := Lib.hid hO3
      clear hO3 hO2 hb2 q0 q1 q2 q3 q4 q5
      go_wp2
      go_roundw
      case rel => exact ⟨1, by omega, rfl, HO2.out.alloc _, HB2.out.alloc HB2.out.size _, HL2.out.alloc _⟩
      case measure => simp [intOf]
    · go_wp2_with fail
      refine (act_at (x' := ⟨3000, 200, 0⟩) (y := 0) (V := zeroC) HO.out T0_ok (xAt_ok 1) rfl rfl rfl).mono ?_
      rintro e w2 ⟨rfl, hO2, hb2⟩
      unfold zeroC
      have hO3 := HLL.out.grown hb2 (by simp; omega)
      have HB2 := Lib.hid (below_only HB.out hb2 hg hsz)
      have HO2 := Lib.hid hO2
      have HL2 := Lib.hid hO3
      clear hO3 hO2 hb2 q0 q1 q2 q3 q4 q5
      go_wp2
      go_roundw
      case rel => exact ⟨2, by omega, rfl, HO2.out.alloc _, HB2.out.alloc HB2.out.size _, HL2.out.alloc _⟩
      case measure => simp [intOf]
    · go_wp2_with fail
      refine (act_at (x' := ⟨3000, 200, 1000⟩) (y := 0) (V := zeroC) HO.out T0_ok (xAt_ok 2) rfl rfl rfl).mono ?_
      rintro e w2 ⟨rfl, hO2, hb2⟩
      unfold zeroC
      have hO3 := HLL.out.grown hb2 (by simp; omega)
      have HB2 := Lib.hid (below_only HB.out hb2 hg hsz)
      have HO2 := Lib.hid hO2
      have HL2 := Lib.hid hO3
      clear hO3 hO2 hb2 q0 q1 q2 q3 q4 q5
      go_wp2
      go_roundw
      case rel => exact ⟨3, by omega, rfl, HO2.out.alloc _, HB2.out.alloc HB2.out.size _, HL2.out.alloc _⟩
      case measure => simp [intOf]
    · clear q0 q1 q2 q3 q4 q5 HLL
      go_wp2_with fail
      refine (open_at (V := #[.int .i64 3000, .int .i64 200, .int .i64 1000, .int .i64 230, .int .i64 1570]) HO.out T0_ok (xAt_ok 3) rfl).mono ?_
      rintro e w2 ⟨rfl, hb2⟩
      replace HO : Hid (Obj w2 g T0 ⟨3000, 200, 1000⟩) := Lib.hid (HO.out.keep hb2)
      replace HB := Lib.hid (Below.on HB.out hb2)
      clear hb2
      go_wp2_with fail
      refine (sale_at (x' := ⟨6200, 200, 1000⟩) (y := 0) HO.out T0_ok (by unfold Rt.okS Rt.amt; simp) rfl rfl).mono ?_
      rintro e w2 ⟨rfl, hO2, hb2⟩
      replace HB := Lib.hid (below_only HB.out hb2 hg HB.out.size)
      replace HO := Lib.hid hO2
      clear hO2 hb2
      go_wp2_with fail
      refine (sale_at (x' := ⟨6200, 200, 1000⟩) (y := 32) HO.out T0_ok (by unfold Rt.okS Rt.amt; simp) rfl rfl).mono ?_
      rintro e w2 ⟨rfl, hO2, hb2⟩
      replace HB := Lib.hid (below_only HB.out hb2 hg HB.out.size)
      replace HO := Lib.hid hO2
      clear hO2 hb2
      go_wp2_with fail
      refine (sale_at (x' := ⟨6200, 200, 1000⟩) (y := 0) HO.out T0_ok (by unfold Rt.okS Rt.amt; simp) rfl rfl).mono ?_
      rintro e w2 ⟨rfl, hO2, hb2⟩
      replace HB := Lib.hid (below_only HB.out hb2 hg HB.out.size)
      replace HO := Lib.hid hO2
      clear hO2 hb2
      go_wp2_with fail
      refine (settle_at (V := #[.int .i64 6200, .int .i64 200, .int .i64 1000, .int .i64 710, .int .i64 4290]) HO.out T0_ok (by unfold Rt.okS Rt.amt; simp) rfl).mono ?_
      rintro e w2 ⟨rfl, hO2, hb2⟩
      replace HB := Lib.hid (below_only HB.out hb2 hg HB.out.size)
      replace HO := Lib.hid hO2
      clear hO2 hb2
      have hS : Blk (w2.alloc (.cells #[.int .i64 6200, .int .i64 200, .int .i64 1000, .int .i64 710, .int .i64 4290] 44)) w2.heap.size 44 #[.int .i64 6200, .int .i64 200, .int .i64 1000, .int .i64 710, .int .i64 4290] := Blk.new w2 _ _
      obtain ⟨S, hSe⟩ : ∃ S, S = w2.heap.size := ⟨_, rfl⟩
      rw [← hSe] at hS
      have hgS : g < S := by rw [hSe]; exact HO.out.lt
      have HS := Lib.hid hS
      have HSE := Lib.hid hSe
      replace HO : Hid (Obj (w2.alloc (.cells #[.int .i64 6200, .int .i64 200, .int .i64 1000, .int .i64 710, .int .i64 4290] 44)) g T0 Rt.zero) := Lib.hid (HO.out.alloc _)
      replace HB := Lib.hid (HB.out.alloc HB.out.size (.cells #[.int .i64 6200, .int .i64 200, .int .i64 1000, .int .i64 710, .int .i64 4290] 44))
      clear hS hSe
      go_wp2_with fail
      rw [← HSE.out]
      refine (refund_at (x' := ⟨0, 50, 0⟩) (y := 0) HO.out Rt.okS_zero rfl rfl).mono ?_
      rintro e w3 ⟨rfl, hO2, hb2⟩
      replace HS := Lib.hid (HS.out.grown hb2 (by simp; omega))
      replace HB := Lib.hid (below_only HB.out hb2 hg HB.out.size)
      replace HO := Lib.hid hO2
      clear hO2 hb2
      go_wp2_with fail
      refine (sale_at (x' := ⟨0, 50, 0⟩) (y := 2) HO.out T0_ok (by unfold Rt.okS Rt.amt; simp) rfl rfl).mono ?_
      rintro e w4 ⟨rfl, hO2, hb2⟩
      replace HS := Lib.hid (HS.out.grown hb2 (by simp; omega))
      replace HB := Lib.hid (below_only HB.out hb2 hg HB.out.size)
      replace HO := Lib.hid hO2
      clear hO2 hb2
      have hs0 := HS.out.cell 0
      simp at hs0
      go_wp2_with fail
      refine (open_at (V := #[.int .i64 0, .int .i64 50, .int .i64 0, .int .i64 0, .int .i64 (-50)]) HO.out T0_ok (by unfold Rt.okS Rt.amt; simp) rfl).mono ?_
      rintro e w5 ⟨rfl, hb2⟩
      replace HB := Lib.hid (Below.on HB.out hb2)
      clear hb2
      go_wp2
      go_ret
      exact ⟨rfl, HB.out⟩
end Go.Proofs.Ytpalmlcepppifaa
