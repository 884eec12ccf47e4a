/- Acts as arguments; do: one act. -/
import Derived.Test.YtdbpbpnbcjbchaaRepAct
import Derived.Test.YtdbpbpnbcjbchaaFields
import Derived.Lib.SmallJoins
set_option linter.unusedVariables false
namespace Go.Proofs.Ytdbpbpnbcjbchaa
open Go.ChangeShapes Go.WideShapes Go.RowKit Go.Joins Go.Deep
/-- An act. -/
structure Ac where
  (k x y : Int) (t : ByteArray)
instance : Inhabited Ac := ⟨⟨0, 0, 0, ⟨#[]⟩⟩⟩
def acC (a : Ac) : Array Value := #[.int .i64 a.k, .int .i64 a.x, .int .i64 a.y, .string a.t]
def Four4 (R : Nat → Ac) : Nat → Value := fun j => (acC (R (j / 4))).getD (j % 4) (.bool false)
theorem Four4_at (R : Nat → Ac) (k i : Nat) (hi : i < 4) : Four4 R (k * 4 + i) = (acC (R k)).getD i (.bool false) := by
  unfold Four4
  rw [show (k * 4 + i) / 4 = k by omega, show (k * 4 + i) % 4 = i by omega]
theorem Cells.acts {w : World} {D : Option Addr} {n : Nat} {R : Nat → Ac} (h : Cells w D (n * 4) (Four4 R)) {k : Nat} (hk : k < n) :
    ∃ b off, D = some ⟨b, off, none⟩ ∧ b < w.heap.size ∧ w.cell? ⟨b, off + k * 4, none⟩ = some (.int .i64 (R k).k) ∧ w.cell? ⟨b, off + k * 4 + 1, none⟩ = some (.int .i64 (R k).x) ∧ w.cell? ⟨b, off + k * 4 + 2, none⟩ = some (.int .i64 (R k).y) ∧ w.cell? ⟨b, off + k * 4 + 3, none⟩ = some (.string (R k).t) := by
  obtain ⟨b, off, e, hlt, hc⟩ := h (by omega)
  exact ⟨b, off, e, hlt, (hc (k * 4) (by omega)).trans (by rw [show k * 4 = k * 4 + 0 by omega, Four4_at R k 0 (by omega)]; rfl), (hc (k * 4 + 1) (by omega)).trans (by rw [Four4_at R k 1 (by omega)]; rfl), (hc (k * 4 + 2) (by omega)).trans (by rw [Four4_at R k 2 (by omega)]; rfl),
    (hc (k * 4 + 3) (by omega)).trans (by rw [Four4_at R k 3 (by omega)]; rfl)⟩
theorem open_acts {H : Type} {enc : TypeId × Value → H} {W : World} {base : Nat} {v : Value} {d : DataW H} {p : List MemPlace}
    (hv : Value.okWide Try.prog W .any base 35 v) (hj : DataW.Trod enc Try.prog W 0 (fun _ => true) true 35 v d p) :
    ∃ (A : Option Addr) (n c : Nat) (R : Nat → Ac), v = .slice A n c ∧ n ≤ c ∧ c ≤ maxLen ∧ Cells W A (n * 4) (Four4 R) ∧ ∀ i, i < n → (R i).t.size ≤ maxLen := by
  obtain ⟨a0, len, cap, rfl⟩ := okWide_slice Try.underlying35 hv
  obtain ⟨fuel, hf⟩ := hj
  rcases open_slice_fields Try.underlying35 Try.underlying38 (by kernel_rfl) (by kernel_rfl) hf with ⟨hcs, _⟩ | ⟨a, l, c, m, D, Pl, hcs, _, hl, hc, hm, _, hi⟩
  · simp [Value.cells] at hcs
    obtain ⟨rfl, rfl, rfl⟩ := hcs
    exact ⟨none, 0, 0, fun _ => default, rfl, Nat.le_refl _, Nat.zero_le _, Cells.nil, fun i hi => absurd hi (by omega)⟩
  · simp [Value.cells] at hcs
    obtain ⟨rfl, rfl, rfl⟩ := hcs
    have key : ∀ i, i < len → ∃ x : Ac, (∀ j, j < 4 → W.cell? (a.add (i * 4 + j)) = some ((acC x).getD j (.bool false))) ∧ x.t.size ≤ maxLen := by
      intro i hil
      obtain ⟨ys, n, _, _, _, hff⟩ := hi i (by rw [hm]; simp; omega)
      obtain ⟨v0, y0, hc0, _, ht0⟩ := hff 0 _ rfl
      obtain ⟨v1, y1, hc1, _, ht1⟩ := hff 1 _ rfl
      obtain ⟨v2, y2, hc2, _, ht2⟩ := hff 2 _ rfl
      obtain ⟨v3, y3, hc3, _, ht3⟩ := hff 3 _ rfl
      obtain ⟨x0, e0, _, _⟩ := DataW.trod_int Try.underlying3 ht0
      obtain ⟨x1, e1, _, _⟩ := DataW.trod_int Try.underlying3 ht1
      obtain ⟨x2, e2, _, _⟩ := DataW.trod_int Try.underlying3 ht2
      obtain ⟨x3, e3, _, hs⟩ := DataW.trod_string Try.underlying9 ht3
      simp at e0 e1 e2 e3
      subst e0 e1 e2 e3
      refine ⟨⟨x0, x1, x2, x3⟩, fun j hj => ?_, hs⟩
      match j, hj with
      | 0, _ => exact hc0
      | 1, _ => exact hc1
      | 2, _ => exact hc2
      | 3, _ => exact hc3
    obtain ⟨f, hfr⟩ := pick key
    refine ⟨some a, len, cap, f, rfl, hl, hc, Cells.mk_ fun j hj => ?_, fun i hi => (hfr i hi).2⟩
    have hs := (hfr (j / 4) (by omega)).1 (j % 4) (Nat.mod_lt _ (by omega))
    rw [show j / 4 * 4 + j % 4 = j by omega] at hs
    exact hs
/-- A text cut at 20 bytes. -/
def cut20 (s : ByteArray) : ByteArray := s.extract 0 (min s.size 20)
theorem cut20_size (s : ByteArray) : (cut20 s).size ≤ 20 := by
  unfold cut20
  rw [ByteArray.size_extract]; omega
theorem cut20_all {s : ByteArray} (h : s.size ≤ 20) : cut20 s = s := by
  unfold cut20
  rw [Nat.min_eq_left h]
  exact ByteArray.extract_zero_size
namespace Rp
/-- What an act does. -/
def actO (n : Nat) (s : St) (a : Ac) : Nat × Nat × St :=
  if a.k = 0 then (0, leadO n s a.x) else if a.k = 1 then propO n s a.x (cut20 a.t) else if a.k = 2 then (0, copyO n s a.x a.y) else if a.k = 3 then (0, failO n s a.x) else if a.k = 4 then (0, restartO n s a.x) else if a.k = 5 then (0, cutO n s a.x) else (0, joinO n s a.x)
theorem Obj.keep {B : Nat} {w w' : World} {h n : Nat} {s : St} (o : Obj B w h n s) (hb : Below w.heap.size w w') : Did B w w' h n s := by
  obtain ⟨lv, cv, c⟩ := o
  exact ⟨⟨_, _, c.keep hb⟩, hb.mono (by have := c.hB; have := c.blk.lt; omega), Kp.below hb⟩
set_option maxHeartbeats 4000000 in
set_option maxRecDepth 100000 in
theorem do_short {B : Nat} {w : World} {h n K : Nat} {s : St} {a : Ac} (o : Obj B w h n s) (hL : Lim s K) (hK : K ≤ 1000) (hm : a.t.size ≤ maxLen) (ht : a.t.size ≤ 20) :
    Calls Try.prog 17 #[.pointer (some ⟨h, 0, none⟩), .agg #[.int .i64 a.k, .int .i64 a.x, .int .i64 a.y, .string a.t]] w fun e w' => e = .returned (.tuple #[.int .i64 ((actO n s a).1 : Int), .int .i64 ((actO n s a).2.1 : Int)]) ∧ Did B w w' h n (actO n s a).2.2 := by
  unfold maxLen at hm
  have HL := Lib.hid hL
  have HCUT := Lib.hid (cut20_all ht)
  have HS := Lib.hid ht
  have hex : a.t.extract 0 a.t.size = a.t := ByteArray.extract_zero_size
  have HD := Lib.hid (o.keep ((Below.refl w.heap.size w).alloc (Nat.le_refl _) (.cells #[.int .i64 a.k, .int .i64 a.x, .int .i64 a.y, .string a.t] 38)))
  clear o hL
  go_enter Try.func17, Try.ntmps17
  cases d0 : (a.k == 0) with
  | true =>
    have HO : Hid (actO n s a = (0, leadO n s a.x)) := by unfold actO; rw [if_pos (by simpa using d0)]; exact rfl
    go_wp2_with fail
    refine (lead_all HD.out.obj HL.out hK a.x).mono ?_
    rintro e w6 ⟨rfl, hd⟩
    have HF := Lib.hid (HD.out.trans hd)
    clear hd
    go_wp2
    go_ret2
    rw [HO.out]
    exact ⟨rfl, HF.out⟩
  | false =>
    cases d1 : (a.k == 1) with
    | true =>
      have HO : Hid (actO n s a = propO n s a.x (cut20 a.t)) := by unfold actO; rw [if_neg (by simpa using d0), if_pos (by simpa using d1)]; exact rfl
      go_wp2_with fail
      refine (prop_all HD.out.obj HL.out hK a.x HS.out).mono ?_
      rintro e w6 ⟨rfl, hd⟩
      have HF := Lib.hid (HD.out.trans hd)
      clear hd
      go_wp2
      go_ret2
      rw [HO.out]
      try rw [HCUT.out]
      exact ⟨rfl, HF.out⟩
    | false =>
      cases d2 : (a.k == 2) with
      | true =>
        have HO : Hid (actO n s a = (0, copyO n s a.x a.y)) := by unfold actO; rw [if_neg (by simpa using d0), if_neg (by simpa using d1), if_pos (by simpa using d2)]; exact rfl
        go_wp2_with fail
        refine (copy_all HD.out.obj a.x a.y).mono ?_
        rintro e w6 ⟨rfl, hd⟩
        have HF := Lib.hid (HD.out.trans hd)
        clear hd
        go_wp2
        go_ret2
        rw [HO.out]
        exact ⟨rfl, HF.out⟩
      | false =>
        cases d3 : (a.k == 3) with
        | true =>
          have HO : Hid (actO n s a = (0, failO n s a.x)) := by unfold actO; rw [if_neg (by simpa using d0), if_neg (by simpa using d1), if_neg (by simpa using d2), if_pos (by simpa using d3)]; exact rfl
          go_wp2_with fail
          refine (fail_all HD.out.obj a.x).mono ?_
          rintro e w6 ⟨rfl, hd⟩
          have HF := Lib.hid (HD.out.trans hd)
          clear hd
          go_wp2
          go_ret2
          rw [HO.out]
          exact ⟨rfl, HF.out⟩
        | false =>
          cases d4 : (a.k == 4) with
          | true =>
            have HO : Hid (actO n s a = (0, restartO n s a.x)) := by unfold actO; rw [if_neg (by simpa using d0), if_neg (by simpa using d1), if_neg (by simpa using d2), if_neg (by simpa using d3), if_pos (by simpa using d4)]; exact rfl
            go_wp2_with fail
            refine (restart_all HD.out.obj a.x).mono ?_
            rintro e w6 ⟨rfl, hd⟩
            have HF := Lib.hid (HD.out.trans hd)
            clear hd
            go_wp2
            go_ret2
            rw [HO.out]
            exact ⟨rfl, HF.out⟩
          | false =>
            cases d5 : (a.k == 5) with
            | true =>
              have HO : Hid (actO n s a = (0, cutO n s a.x)) := by unfold actO; rw [if_neg (by simpa using d0), if_neg (by simpa using d1), if_neg (by simpa using d2), if_neg (by simpa using d3), if_neg (by simpa using d4), if_pos (by simpa using d5)]; exact rfl
              go_wp2_with fail
              refine (cut_all HD.out.obj a.x).mono ?_
              rintro e w6 ⟨rfl, hd⟩
              have HF := Lib.hid (HD.out.trans hd)
              clear hd
              go_wp2
              go_ret2
              rw [HO.out]
              exact ⟨rfl, HF.out⟩
            | false =>
              have HO : Hid (actO n s a = (0, joinO n s a.x)) := by unfold actO; rw [if_neg (by simpa using d0), if_neg (by simpa using d1), if_neg (by simpa using d2), if_neg (by simpa using d3), if_neg (by simpa using d4), if_neg (by simpa using d5)]; exact rfl
              go_wp2_with fail
              refine (join_all HD.out.obj a.x).mono ?_
              rintro e w6 ⟨rfl, hd⟩
              have HF := Lib.hid (HD.out.trans hd)
              clear hd
              go_wp2
              go_ret2
              rw [HO.out]
              exact ⟨rfl, HF.out⟩
set_option maxHeartbeats 4000000 in
set_option maxRecDepth 100000 in
theorem do_long {B : Nat} {w : World} {h n K : Nat} {s : St} {a : Ac} (o : Obj B w h n s) (hL : Lim s K) (hK : K ≤ 1000) (hm : a.t.size ≤ maxLen) (ht : 20 < a.t.size) :
    Calls Try.prog 17 #[.pointer (some ⟨h, 0, none⟩), .agg #[.int .i64 a.k, .int .i64 a.x, .int .i64 a.y, .string a.t]] w fun e w' => e = .returned (.tuple #[.int .i64 ((actO n s a).1 : Int), .int .i64 ((actO n s a).2.1 : Int)]) ∧ Did B w w' h n (actO n s a).2.2 := by
  unfold maxLen at hm
  have HL := Lib.hid hL
  have HCUT : Hid (cut20 a.t = a.t.extract 0 20) := by unfold cut20; rw [Nat.min_eq_right (by omega)]; exact rfl
  have HS : Hid ((a.t.extract 0 20).size ≤ 20) := by rw [← HCUT.out]; exact cut20_size _
  have HD := Lib.hid (o.keep ((Below.refl w.heap.size w).alloc (Nat.le_refl _) (.cells #[.int .i64 a.k, .int .i64 a.x, .int .i64 a.y, .string (a.t.extract 0 20)] 38)))
  clear o hL
  go_enter Try.func17, Try.ntmps17
  cases d0 : (a.k == 0) with
  | true =>
    have HO : Hid (actO n s a = (0, leadO n s a.x)) := by unfold actO; rw [if_pos (by simpa using d0)]; exact rfl
    go_wp2_with fail
    refine (lead_all HD.out.obj HL.out hK a.x).mono ?_
    rintro e w6 ⟨rfl, hd⟩
    have HF := Lib.hid (HD.out.trans hd)
    clear hd
    go_wp2
    go_ret2
    rw [HO.out]
    exact ⟨rfl, HF.out⟩
  | false =>
    cases d1 : (a.k == 1) with
    | true =>
      have HO : Hid (actO n s a = propO n s a.x (cut20 a.t)) := by unfold actO; rw [if_neg (by simpa using d0), if_pos (by simpa using d1)]; exact rfl
      go_wp2_with fail
      refine (prop_all HD.out.obj HL.out hK a.x HS.out).mono ?_
      rintro e w6 ⟨rfl, hd⟩
      have HF := Lib.hid (HD.out.trans hd)
      clear hd
      go_wp2
      go_ret2
      rw [HO.out]
      try rw [HCUT.out]
      exact ⟨rfl, HF.out⟩
    | false =>
      cases d2 : (a.k == 2) with
      | true =>
        have HO : Hid (actO n s a = (0, copyO n s a.x a.y)) := by unfold actO; rw [if_neg (by simpa using d0), if_neg (by simpa using d1), if_pos (by simpa using d2)]; exact rfl
        go_wp2_with fail
        refine (copy_all HD.out.obj a.x a.y).mono ?_
        rintro e w6 ⟨rfl, hd⟩
        have HF := Lib.hid (HD.out.trans hd)
        clear hd
        go_wp2
        go_ret2
        rw [HO.out]
        exact ⟨rfl, HF.out⟩
      | false =>
        cases d3 : (a.k == 3) with
        | true =>
          have HO : Hid (actO n s a = (0, failO n s a.x)) := by unfold actO; rw [if_neg (by simpa using d0), if_neg (by simpa using d1), if_neg (by simpa using d2), if_pos (by simpa using d3)]; exact rfl
          go_wp2_with fail
          refine (fail_all HD.out.obj a.x).mono ?_
          rintro e w6 ⟨rfl, hd⟩
          have HF := Lib.hid (HD.out.trans hd)
          clear hd
          go_wp2
          go_ret2
          rw [HO.out]
          exact ⟨rfl, HF.out⟩
        | false =>
          cases d4 : (a.k == 4) with
          | true =>
            have HO : Hid (actO n s a = (0, restartO n s a.x)) := by unfold actO; rw [if_neg (by simpa using d0), if_neg (by simpa using d1), if_neg (by simpa using d2), if_neg (by simpa using d3), if_pos (by simpa using d4)]; exact rfl
            go_wp2_with fail
            refine (restart_all HD.out.obj a.x).mono ?_
            rintro e w6 ⟨rfl, hd⟩
            have HF := Lib.hid (HD.out.trans hd)
            clear hd
            go_wp2
            go_ret2
            rw [HO.out]
            exact ⟨rfl, HF.out⟩
          | false =>
            cases d5 : (a.k == 5) with
            | true =>
              have HO : Hid (actO n s a = (0, cutO n s a.x)) := by unfold actO; rw [if_neg (by simpa using d0), if_neg (by simpa using d1), if_neg (by simpa using d2), if_neg (by simpa using d3), if_neg (by simpa using d4), if_pos (by simpa using d5)]; exact rfl
              go_wp2_with fail
              refine (cut_all HD.out.obj a.x).mono ?_
              rintro e w6 ⟨rfl, hd⟩
              have HF := Lib.hid (HD.out.trans hd)
              clear hd
              go_wp2
              go_ret2
              rw [HO.out]
              exact ⟨rfl, HF.out⟩
            | false =>
              have HO : Hid (actO n s a = (0, joinO n s a.x)) := by unfold actO; rw [if_neg (by simpa using d0), if_neg (by simpa using d1), if_neg (by simpa using d2), if_neg (by simpa using d3), if_neg (by simpa using d4), if_neg (by simpa using d5)]; exact rfl
              go_wp2_with fail
              refine (join_all HD.out.obj a.x).mono ?_
              rintro e w6 ⟨rfl, hd⟩
              have HF := Lib.hid (HD.out.trans hd)
              clear hd
              go_wp2
              go_ret2
              rw [HO.out]
              exact ⟨rfl, HF.out⟩
theorem do_any {B : Nat} {w : World} {h n K : Nat} {s : St} {a : Ac} (o : Obj B w h n s) (hL : Lim s K) (hK : K ≤ 1000) (hm : a.t.size ≤ maxLen) :
    Calls Try.prog 17 #[.pointer (some ⟨h, 0, none⟩), .agg #[.int .i64 a.k, .int .i64 a.x, .int .i64 a.y, .string a.t]] w fun e w' => e = .returned (.tuple #[.int .i64 ((actO n s a).1 : Int), .int .i64 ((actO n s a).2.1 : Int)]) ∧ Did B w w' h n (actO n s a).2.2 := by
  by_cases ht : a.t.size ≤ 20
  · exact do_short o hL hK hm ht
  · exact do_long o hL hK hm (by omega)
end Rp
end Go.Proofs.Ytdbpbpnbcjbchaa
