/- Arguments of the types [2]uint16 and [2]uint32, opened; one prize that expires. -/
import Derived.Test.YtpalmlcepppifaaClmLawO
import Derived.Deep.QuietTactic
import Derived.BigQuiet
import Derived.IntWalk
import Derived.OpenShut
set_option linter.unusedVariables false
namespace Go.Proofs.Ytpalmlcepppifaa
open Go.ChangeShapes Go.WideShapes Go.RowKit Go.Joins Go.Deep

theorem okWide_arr {P : Program} {w : World} {r : Reach} {base n : Nat} {t e : TypeId} {v : Value} (ht : P.underlying t = some (.array n e)) (h : Value.okWide P w r base t v) : ∃ cs, v = .agg cs ∧ cs.size = P.cellsOf t := by
  simp only [Value.okWide, ht] at h
  obtain ⟨cs, h1, h2, _⟩ := h
  exact ⟨cs, h1, h2⟩
theorem open_two16 {H : Type} {enc : TypeId × Value → H} {W : World} {base : Nat} {v : Value} {d : DataW H} {p : List MemPlace}
    (hv : Value.okWide Try.prog W .any base 62 v) (hj : DataW.Trod enc Try.prog W 0 (fun _ => true) true 62 v d p) :
    ∃ x y : Int, v = .agg #[.int .u16 x, .int .u16 y] ∧ (0 ≤ x ∧ x ≤ 65535) ∧ (0 ≤ y ∧ y ≤ 65535) := by
  obtain ⟨cs, rfl, hsz⟩ := okWide_arr Try.underlying62 hv
  obtain ⟨l⟩ := cs
  have hC : Try.prog.cellsOf 62 = 2 := by kernel_rfl
  match l, hsz.trans hC with
  | [c0, c1], _ =>
    obtain ⟨fuel, hf⟩ := hj
    obtain ⟨xs, n, _, _, _, hlen, hg⟩ := DataW.trod_array Try.underlying62 hf
    have h1c : Try.prog.cellsOf 23 = 1 := by kernel_rfl
    have h0 := hg 0 (by omega)
    have h1 := hg 1 (by omega)
    simp [Value.cells, h1c] at h0 h1
    match xs, hlen with
    | [y0, y1], _ =>
      obtain ⟨a0, e0, _, w0⟩ := DataW.trod_int (x := y0) Try.underlying23 (by simpa using h0)
      obtain ⟨a1, e1, _, w1⟩ := DataW.trod_int (x := y1) Try.underlying23 (by simpa using h1)
      simp at e0 e1
      subst e0 e1
      exact ⟨a0, a1, rfl, wf_at_u16 w0, wf_at_u16 w1⟩
theorem open_two32 {H : Type} {enc : TypeId × Value → H} {W : World} {base : Nat} {v : Value} {d : DataW H} {p : List MemPlace}
    (hv : Value.okWide Try.prog W .any base 32 v) (hj : DataW.Trod enc Try.prog W 0 (fun _ => true) true 32 v d p) :
    ∃ x y : Int, v = .agg #[.int .u32 x, .int .u32 y] ∧ (0 ≤ x ∧ x ≤ 4294967295) ∧ (0 ≤ y ∧ y ≤ 4294967295) := by
  obtain ⟨cs, rfl, hsz⟩ := okWide_arr Try.underlying32 hv
  obtain ⟨l⟩ := cs
  have hC : Try.prog.cellsOf 32 = 2 := by kernel_rfl
  match l, hsz.trans hC with
  | [c0, c1], _ =>
    obtain ⟨fuel, hf⟩ := hj
    obtain ⟨xs, n, _, _, _, hlen, hg⟩ := DataW.trod_array Try.underlying32 hf
    have h1c : Try.prog.cellsOf 22 = 1 := by kernel_rfl
    have h0 := hg 0 (by omega)
    have h1 := hg 1 (by omega)
    simp [Value.cells, h1c] at h0 h1
    match xs, hlen with
    | [y0, y1], _ =>
      obtain ⟨a0, e0, _, w0⟩ := DataW.trod_int (x := y0) Try.underlying22 (by simpa using h0)
      obtain ⟨a1, e1, _, w1⟩ := DataW.trod_int (x := y1) Try.underlying22 (by simpa using h1)
      simp at e0 e1
      subst e0 e1
      exact ⟨a0, a1, rfl, wf_at_u32 w0, wf_at_u32 w1⟩

namespace Cm
variable {A F E S : Nat → Int} {at_ : Int}
theorem old1_no (h : ¬ (S 0 = 0 ∧ E 0 < at_)) : oldS E S at_ 1 0 = S 0 ∧ osum A E S at_ 1 = 0 := by
  have c : old E S at_ 0 = false := by unfold old; simp; intro h0; have : ¬ E 0 < at_ := fun h1 => h ⟨h0, h1⟩; omega
  refine ⟨?_, ?_⟩
  · unfold oldS; rw [if_neg (by rw [c]; simp)]
  · simp [osum, c]
theorem old1_yes (h0 : S 0 = 0) (h1 : E 0 < at_) : oldS E S at_ 1 0 = 2 ∧ osum A E S at_ 1 = A 0 := by
  have c : old E S at_ 0 = true := by unfold old; simp [h0, h1]
  refine ⟨?_, ?_⟩
  · unfold oldS; rw [if_pos ⟨by omega, c⟩]
  · simp [osum, c]
end Cm
theorem wait2 (W : World) (x y : Value) (t : TypeId) : Blk (W.alloc (.cells #[x, y] t)) W.heap.size t #[x, y] := Blk.new W _ _

set_option maxHeartbeats 2000000 in
theorem claimExpires_a (W : World) (a : Int) (wa : (Lit.int .u32 a).wf = true) (en : Int) (we : (Lit.int .u16 en).wf = true) {x y : Int} (hx : 0 ≤ x ∧ x ≤ 65535) (hy : 0 ≤ y ∧ y ≤ 65535) (hle : x ≤ en) (hye : en < y) :
    Calls Try.prog 14 #[.int .u32 a, .int .u16 en, .agg #[.int .u16 x, .int .u16 y]] W fun e w' => e = .returned (.bool true) ∧ Below W.heap.size W w' := by
  obtain ⟨a0, a1⟩ := wf_at_u32 wa
  obtain ⟨e0, e1⟩ := wf_at_u16 we
  obtain ⟨x0, x1⟩ := hx
  obtain ⟨y0, y1⟩ := hy
  clear wa we
  obtain ⟨W2, hW2⟩ : ∃ W2, W2 = W.alloc (.cells #[.int .u16 x, .int .u16 y] 62) := ⟨_, rfl⟩
  have hbx : Blk W2 W.heap.size 62 #[.int .u16 x, .int .u16 y] := by rw [hW2]; exact Blk.new W _ _
  have hb2 : Below W.heap.size W W2 := by rw [hW2]; exact (Below.refl _ _).alloc (Nat.le_refl _) _
  have q0 := hbx.cell 0
  have q1 := hbx.cell 1
  simp at q0 q1
  have HW2 := Lib.hid hW2
  have HB2 := Lib.hid hb2
  clear hbx hb2 hW2
  go_enter Try.func14, Try.ntmps14
  go_wp2_with fail
  rw [← HW2.out]
  go_quiet (fail)
  have HB3 := Lib.hid (below_drewN HB2.out nq)
  clear q0 q1
  generalize W2.drewN nq = W3 at HB3 ⊢
  go_wp2_with fail
  refine (new_at W3).mono ?_
  rintro e w1 ⟨h, rfl, ha⟩
  have HA := Lib.hid ha
  clear ha
  go_wp2_with fail
  refine (add_yes (s := et) HA.out.obj (by omega) HA.out.size (by decide) (by decide) (by omega) (by omega) (by omega) (by omega) (by omega)).mono ?_
  rintro e w2 hk
  obtain rfl := hk.1
  replace HA := Lib.hid (HA.out.left hk)
  clear hk
  go_wp2_with fail
  refine (expire_at (u := 0) HA.out.obj HA.out.size (Cm.old1_no (by rintro ⟨_, h2⟩; simp only [upd_same] at h2; omega)).2).mono ?_
  rintro e w3 hk
  obtain rfl := hk.1
  have HS := Lib.hid (show Cm.oldS (upd (fun _ => (0 : Int)) 0 en) (upd (fun _ => (0 : Int)) 0 0) x 1 0 = 0 from (Cm.old1_no (A := fun _ => 0) (by rintro ⟨_, h2⟩; simp only [upd_same] at h2; omega)).1)
  replace HA := Lib.hid (HA.out.left hk)
  clear hk
  go_wp2_with fail
  refine (claim_got (s := et) (u := a + 1) (at_ := en) HA.out.obj HA.out.size (by decide) (idx_one _ _) (Cm.ck1_ok HS.out (show (0 : Int) ≤ en by omega) (show en ≤ en by omega) (show a + 1 ≤ 1000000000000 by omega) (by omega)) (Cm.lsum_one _ _ (Cm.ck1_can HS.out (show (0 : Int) ≤ en by omega) (show en ≤ en by omega)))).mono ?_
  rintro e w4 hk
  obtain rfl := hk.1
  have HS2 := Lib.hid (Cm.pay_one (Cm.ck1_can (F := upd (fun _ => (0 : Int)) 0 0) (E := upd (fun _ => (0 : Int)) 0 en) (at_ := en) HS.out (show (0 : Int) ≤ en by omega) (show en ≤ en by omega)))
  replace HA := Lib.hid (HA.out.left hk)
  clear hk
  go_wp2_with fail
  refine (expire_at (u := 0) HA.out.obj HA.out.size (Cm.old1_no (by rintro ⟨h1, _⟩; rw [HS2.out] at h1; exact absurd h1 (by decide))).2).mono ?_
  rintro e w5 hk
  obtain rfl := hk.1
  replace HA := Lib.hid (HA.out.left hk)
  clear hk
  go_wp2_with fail
  refine (works44 _).mono ?_
  rintro e w9 ⟨rfl, hb9⟩
  have HB := Lib.hid (HB3.out.trans ((Below.on HA.out.below hb9).mono HB3.out.size))
  clear hb9
  go_wp2
  go_ret
  exact ⟨rfl, HB.out⟩
set_option maxHeartbeats 2000000 in
theorem claimExpires_b (W : World) (a : Int) (wa : (Lit.int .u32 a).wf = true) (en : Int) (we : (Lit.int .u16 en).wf = true) {x y : Int} (hx : 0 ≤ x ∧ x ≤ 65535) (hy : 0 ≤ y ∧ y ≤ 65535) (hle : x ≤ en) (hye : y ≤ en) :
    Calls Try.prog 14 #[.int .u32 a, .int .u16 en, .agg #[.int .u16 x, .int .u16 y]] W fun e w' => e = .returned (.bool true) ∧ Below W.heap.size W w' := by
  obtain ⟨a0, a1⟩ := wf_at_u32 wa
  obtain ⟨e0, e1⟩ := wf_at_u16 we
  obtain ⟨x0, x1⟩ := hx
  obtain ⟨y0, y1⟩ := hy
  clear wa we
  obtain ⟨W2, hW2⟩ : ∃ W2, W2 = W.alloc (.cells #[.int .u16 x, .int .u16 y] 62) := ⟨_, rfl⟩
  have hbx : Blk W2 W.heap.size 62 #[.int .u16 x, .int .u16 y] := by rw [hW2]; exact Blk.new W _ _
  have hb2 : Below W.heap.size W W2 := by rw [hW2]; exact (Below.refl _ _).alloc (Nat.le_refl _) _
  have q0 := hbx.cell 0
  have q1 := hbx.cell 1
  simp at q0 q1
  have HW2 := Lib.hid hW2
  have HB2 := Lib.hid hb2
  clear hbx hb2 hW2
  go_enter Try.func14, Try.ntmps14
  go_wp2_with fail
  rw [← HW2.out]
  go_quiet (fail)
  have HB3 := Lib.hid (below_drewN HB2.out nq)
  clear q0 q1
  generalize W2.drewN nq = W3 at HB3 ⊢
  go_wp2_with fail
  refine (new_at W3).mono ?_
  rintro e w1 ⟨h, rfl, ha⟩
  have HA := Lib.hid ha
  clear ha
  go_wp2_with fail
  refine (add_yes (s := et) HA.out.obj (by omega) HA.out.size (by decide) (by decide) (by omega) (by omega) (by omega) (by omega) (by omega)).mono ?_
  rintro e w2 hk
  obtain rfl := hk.1
  replace HA := Lib.hid (HA.out.left hk)
  clear hk
  go_wp2_with fail
  refine (expire_at (u := 0) HA.out.obj HA.out.size (Cm.old1_no (by rintro ⟨_, h2⟩; simp only [upd_same] at h2; omega)).2).mono ?_
  rintro e w3 hk
  obtain rfl := hk.1
  have HS := Lib.hid (show Cm.oldS (upd (fun _ => (0 : Int)) 0 en) (upd (fun _ => (0 : Int)) 0 0) x 1 0 = 0 from (Cm.old1_no (A := fun _ => 0) (by rintro ⟨_, h2⟩; simp only [upd_same] at h2; omega)).1)
  replace HA := Lib.hid (HA.out.left hk)
  clear hk
  go_wp2_with fail
  refine (claim_got (s := et) (u := a + 1) (at_ := y) HA.out.obj HA.out.size (by decide) (idx_one _ _) (Cm.ck1_ok HS.out (show (0 : Int) ≤ y by omega) (show y ≤ en by omega) (show a + 1 ≤ 1000000000000 by omega) (by omega)) (Cm.lsum_one _ _ (Cm.ck1_can HS.out (show (0 : Int) ≤ y by omega) (show y ≤ en by omega)))).mono ?_
  rintro e w4 hk
  obtain rfl := hk.1
  have HS2 := Lib.hid (Cm.pay_one (Cm.ck1_can (F := upd (fun _ => (0 : Int)) 0 0) (E := upd (fun _ => (0 : Int)) 0 en) (at_ := y) HS.out (show (0 : Int) ≤ y by omega) (show y ≤ en by omega)))
  replace HA := Lib.hid (HA.out.left hk)
  clear hk
  go_wp2_with fail
  refine (expire_at (u := 0) HA.out.obj HA.out.size (Cm.old1_no (by rintro ⟨h1, _⟩; rw [HS2.out] at h1; exact absurd h1 (by decide))).2).mono ?_
  rintro e w5 hk
  obtain rfl := hk.1
  replace HA := Lib.hid (HA.out.left hk)
  clear hk
  go_wp2_with fail
  refine (works44 _).mono ?_
  rintro e w9 ⟨rfl, hb9⟩
  have HB := Lib.hid (HB3.out.trans ((Below.on HA.out.below hb9).mono HB3.out.size))
  clear hb9
  go_wp2
  go_ret
  exact ⟨rfl, HB.out⟩
set_option maxHeartbeats 2000000 in
theorem claimExpires_c (W : World) (a : Int) (wa : (Lit.int .u32 a).wf = true) (en : Int) (we : (Lit.int .u16 en).wf = true) {x y : Int} (hx : 0 ≤ x ∧ x ≤ 65535) (hy : 0 ≤ y ∧ y ≤ 65535) (hgt : en < x) :
    Calls Try.prog 14 #[.int .u32 a, .int .u16 en, .agg #[.int .u16 x, .int .u16 y]] W fun e w' => e = .returned (.bool true) ∧ Below W.heap.size W w' := by
  obtain ⟨a0, a1⟩ := wf_at_u32 wa
  obtain ⟨e0, e1⟩ := wf_at_u16 we
  obtain ⟨x0, x1⟩ := hx
  obtain ⟨y0, y1⟩ := hy
  clear wa we
  obtain ⟨W2, hW2⟩ : ∃ W2, W2 = W.alloc (.cells #[.int .u16 x, .int .u16 y] 62) := ⟨_, rfl⟩
  have hbx : Blk W2 W.heap.size 62 #[.int .u16 x, .int .u16 y] := by rw [hW2]; exact Blk.new W _ _
  have hb2 : Below W.heap.size W W2 := by rw [hW2]; exact (Below.refl _ _).alloc (Nat.le_refl _) _
  have q0 := hbx.cell 0
  have q1 := hbx.cell 1
  simp at q0 q1
  have HW2 := Lib.hid hW2
  have HB2 := Lib.hid hb2
  clear hbx hb2 hW2
  go_enter Try.func14, Try.ntmps14
  go_wp2_with fail
  rw [← HW2.out]
  go_quiet (fail)
  have HB3 := Lib.hid (below_drewN HB2.out nq)
  clear q0 q1
  generalize W2.drewN nq = W3 at HB3 ⊢
  go_wp2_with fail
  refine (new_at W3).mono ?_
  rintro e w1 ⟨h, rfl, ha⟩
  have HA := Lib.hid ha
  clear ha
  go_wp2_with fail
  refine (add_yes (s := et) HA.out.obj (by omega) HA.out.size (by decide) (by decide) (by omega) (by omega) (by omega) (by omega) (by omega)).mono ?_
  rintro e w2 hk
  obtain rfl := hk.1
  replace HA := Lib.hid (HA.out.left hk)
  clear hk
  go_wp2_with fail
  refine (expire_at (u := a + 1) HA.out.obj HA.out.size (Cm.old1_yes rfl (show en < x from hgt)).2).mono ?_
  rintro e w3 hk
  obtain rfl := hk.1
  have HS := Lib.hid (show Cm.oldS (upd (fun _ => (0 : Int)) 0 en) (upd (fun _ => (0 : Int)) 0 0) x 1 0 = 2 from (Cm.old1_yes (A := fun _ => 0) rfl (show en < x from hgt)).1)
  replace HA := Lib.hid (HA.out.left hk)
  clear hk
  go_wp2_with fail
  refine (claim_not (s := et) (y := 16) HA.out.obj HA.out.size (by decide) (idx_one _ _) (Cm.ck1_expired HS.out) (by decide)).mono ?_
  rintro e w4 hk
  obtain rfl := hk.1
  replace HA := Lib.hid (HA.out.left hk)
  clear hk
  have HT : Hid (Tot (upd (fun _ => (0 : Int)) 0 (a + 1)) (Cm.oldS (upd (fun _ => (0 : Int)) 0 en) (upd (fun _ => (0 : Int)) 0 0) x 1) 1 1 (a + 1) 0 (a + 1)) := Lib.hid ⟨by simp [Cm.psum, HS.out, upd_same], by simp [Cm.psum, HS.out], by simp [Cm.psum, HS.out, upd_same], (fun i hi => (by rw [show i = 0 by omega, upd_same]; omega)), Nat.le_refl _⟩
  go_wp2_with fail
  refine (sum_at (x := 0) HA.out.obj HT.out (by simp [Cm.psum, HS.out])).mono ?_
  rintro e w5 ⟨rfl, hb5⟩
  replace HA := Lib.hid (HA.out.keep hb5)
  clear hb5
  go_wp2_with fail
  refine (expire_at (u := 0) HA.out.obj HA.out.size (Cm.old1_no (by rintro ⟨h1, _⟩; rw [HS.out] at h1; exact absurd h1 (by decide))).2).mono ?_
  rintro e w6 hk
  obtain rfl := hk.1
  replace HA := Lib.hid (HA.out.left hk)
  clear hk
  go_wp2_with fail
  refine (works44 _).mono ?_
  rintro e w9 ⟨rfl, hb9⟩
  have HB := Lib.hid (HB3.out.trans ((Below.on HA.out.below hb9).mono HB3.out.size))
  clear hb9
  go_wp2
  go_ret
  exact ⟨rfl, HB.out⟩
theorem claimExpires_walk (W : World) (a : Int) (wa : (Lit.int .u32 a).wf = true) (en : Int) (we : (Lit.int .u16 en).wf = true) {x y : Int} (hx : 0 ≤ x ∧ x ≤ 65535) (hy : 0 ≤ y ∧ y ≤ 65535) :
    Calls Try.prog 14 #[.int .u32 a, .int .u16 en, .agg #[.int .u16 x, .int .u16 y]] W fun e w' => e = .returned (.bool true) ∧ Below W.heap.size W w' := by
  by_cases hle : x ≤ en
  · by_cases hye : en < y
    · exact claimExpires_a W a wa en we hx hy hle hye
    · exact claimExpires_b W a wa en we hx hy hle (by omega)
  · exact claimExpires_c W a wa en we hx hy (by omega)
end Go.Proofs.Ytpalmlcepppifaa
