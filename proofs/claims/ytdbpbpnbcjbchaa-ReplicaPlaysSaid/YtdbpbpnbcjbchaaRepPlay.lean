/- play: one act on both objects. -/
import Derived.Test.YtdbpbpnbcjbchaaRepPlayO
set_option linter.unusedVariables false
namespace Go.Proofs.Ytdbpbpnbcjbchaa
open Go.RowKit
namespace Rp
set_option maxHeartbeats 4000000 in
set_option maxRecDepth 100000 in
theorem play_short {B : Nat} {w : World} {h hr b n K : Nat} {s : St} {a : Ac} (o : Obj B w h n s) (r : RObj B w hr b n s) (hL : Lim s K) (hK : K ≤ 1000) (hdl : Dl s) (hm : a.t.size ≤ maxLen) (ht : a.t.size ≤ 20) :
    Calls Try.prog 23 #[.pointer (some ⟨h, 0, none⟩), .pointer (some ⟨hr, 0, none⟩), .agg #[.int .i64 a.k, .int .i64 a.x, .int .i64 a.y, .string a.t]] w fun e w' => e = .returned (.bool true) ∧ ∃ cs, Bth B w w' h hr b n (actO n s a).2.2 (actO n s a).2.2 w.heap.size cs := by
  unfold maxLen at hm
  have HL := Lib.hid hL
  have HDL := Lib.hid hdl
  have HCUT := Lib.hid (cut20_all ht)
  have HS := Lib.hid ht
  have hex : a.t.extract 0 a.t.size = a.t := ByteArray.extract_zero_size
  have HB := Lib.hid (Bth.start o r #[.int .i64 a.k, .int .i64 a.x, .int .i64 a.y, .string a.t])
  have HALL : Hid (∀ w' s1 s2, Bth B w w' h hr b n s1 s2 w.heap.size #[.int .i64 a.k, .int .i64 a.x, .int .i64 a.y, .string a.t] → w'.cell? ⟨w.heap.size, 1, none⟩ = some (.int .i64 a.x) ∧ w'.cell? ⟨w.heap.size, 2, none⟩ = some (.int .i64 a.y)) := Lib.hid fun w' s1 s2 t => ⟨t.act.cell 1, t.act.cell 2⟩
  clear o r hL hdl
  go_enter Try.func23, Try.ntmps23
  cases d0 : (a.k == 0) with
  | true =>
    have HO : Hid (actO n s a = (0, leadO n s a.x)) := by unfold actO; rw [if_pos (by simpa using d0)]; exact rfl
    have HX : Hid (∀ w', Bth B w w' h hr b n s s w.heap.size #[.int .i64 a.k, .int .i64 a.x, .int .i64 a.y, .string a.t] → Calls Try.prog 11 #[.pointer (some ⟨h, 0, none⟩), .int .i64 a.x] w' fun e w'' => e = .returned (.int .i64 (((leadO n s a.x).1 : Nat) : Int)) ∧ Bth B w w'' h hr b n (leadO n s a.x).2 s w.heap.size #[.int .i64 a.k, .int .i64 a.x, .int .i64 a.y, .string a.t]) := Lib.hid fun w' t => (lead_all t.ours HL.out hK a.x).mono fun e w'' ⟨h1, h2⟩ => ⟨h1, t.one h2⟩
    have HY : Hid (∀ w', Bth B w w' h hr b n (leadO n s a.x).2 s w.heap.size #[.int .i64 a.k, .int .i64 a.x, .int .i64 a.y, .string a.t] → Calls Try.prog 36 #[.pointer (some ⟨hr, 0, none⟩), .int .i64 a.x] w' fun e w'' => e = .returned (.int .i64 (((leadO n s a.x).1 : Nat) : Int)) ∧ Bth B w w'' h hr b n (leadO n s a.x).2 (leadO n s a.x).2 w.heap.size #[.int .i64 a.k, .int .i64 a.x, .int .i64 a.y, .string a.t]) := Lib.hid fun w' t => (rlead_all t.theirs HL.out hK a.x).mono fun e w'' ⟨h1, h2⟩ => ⟨h1, t.two h2⟩
    have A0 := HB.out.drew
    go_wp2_with fail
    go_region_held3 (fun w' => w'.cell? ⟨w.heap.size, 1, none⟩ = some (.int .i64 a.x) ∧ w'.cell? ⟨w.heap.size, 2, none⟩ = some (.int .i64 a.y))
      (first
        | exact HALL.out _ _ _ (by assumption))
      (first
        | (go_at_call 11; refine (HX.out _ (by assumption)).mono ?_; rintro e5 w5 ⟨rfl, t5⟩)
        | (go_at_call 36; refine (HY.out _ (by assumption)).mono ?_; rintro e6 w6 ⟨rfl, t6⟩)
        | fail)
    all_goals
      have HF := Lib.hid t6
      clear t5 t6 A0
      go_wp2
      go_ret
      rw [HO.out]
      exact ⟨rfl, _, HF.out⟩
  | false =>
    cases d1 : (a.k == 1) with
    | true =>
      have HO : Hid (actO n s a = propO n s a.x (cut20 a.t)) := by unfold actO; rw [if_neg (by simpa using d0), if_pos (by simpa using d1)]; exact rfl
      go_wp2_with fail
      refine (prop_all HB.out.ours HL.out hK a.x HS.out).mono ?_
      rintro e w6 ⟨rfl, hd⟩
      have HB6 := Lib.hid (HB.out.one hd)
      obtain ⟨c1, c2⟩ := HALL.out _ _ _ HB6.out
      have c3 : w6.cell? ⟨w.heap.size, 3, none⟩ = some (.string a.t) := HB6.out.act.cell 3
      clear hd
      go_wp2_with fail
      refine (rprop_all HB6.out.theirs HL.out hK a.x HS.out).mono ?_
      rintro e w7 ⟨rfl, hd⟩
      have HF := Lib.hid (HB6.out.two hd)
      clear hd c1 c2 c3
      go_wp2
      go_ret
      rw [HO.out]
      try rw [HCUT.out]
      exact ⟨rfl, _, HF.out⟩
    | false =>
      cases d2 : (a.k == 2) with
      | true =>
        have HO : Hid (actO n s a = (0, copyO n s a.x a.y)) := by unfold actO; rw [if_neg (by simpa using d0), if_neg (by simpa using d1), if_pos (by simpa using d2)]; exact rfl
        have HX : Hid (∀ w', Bth B w w' h hr b n s s w.heap.size #[.int .i64 a.k, .int .i64 a.x, .int .i64 a.y, .string a.t] → Calls Try.prog 15 #[.pointer (some ⟨h, 0, none⟩), .int .i64 a.x, .int .i64 a.y] w' fun e w'' => e = .returned (.int .i64 (((copyO n s a.x a.y).1 : Nat) : Int)) ∧ Bth B w w'' h hr b n (copyO n s a.x a.y).2 s w.heap.size #[.int .i64 a.k, .int .i64 a.x, .int .i64 a.y, .string a.t]) := Lib.hid fun w' t => (copy_all t.ours a.x a.y).mono fun e w'' ⟨h1, h2⟩ => ⟨h1, t.one h2⟩
        have HY : Hid (∀ w', Bth B w w' h hr b n (copyO n s a.x a.y).2 s w.heap.size #[.int .i64 a.k, .int .i64 a.x, .int .i64 a.y, .string a.t] → Calls Try.prog 38 #[.pointer (some ⟨hr, 0, none⟩), .int .i64 a.x, .int .i64 a.y] w' fun e w'' => e = .returned (.int .i64 (((copyO n s a.x a.y).1 : Nat) : Int)) ∧ Bth B w w'' h hr b n (copyO n s a.x a.y).2 (copyO n s a.x a.y).2 w.heap.size #[.int .i64 a.k, .int .i64 a.x, .int .i64 a.y, .string a.t]) := Lib.hid fun w' t => (rcopy_all t.theirs a.x a.y).mono fun e w'' ⟨h1, h2⟩ => ⟨h1, t.two h2⟩
        have A0 := HB.out.drew
        go_wp2_with fail
        go_region_held3 (fun w' => w'.cell? ⟨w.heap.size, 1, none⟩ = some (.int .i64 a.x) ∧ w'.cell? ⟨w.heap.size, 2, none⟩ = some (.int .i64 a.y))
          (first
            | exact HALL.out _ _ _ (by assumption))
          (first
            | (go_at_call 15; refine (HX.out _ (by assumption)).mono ?_; rintro e5 w5 ⟨rfl, t5⟩)
            | (go_at_call 38; refine (HY.out _ (by assumption)).mono ?_; rintro e6 w6 ⟨rfl, t6⟩)
            | fail)
        all_goals
          have HF := Lib.hid t6
          clear t5 t6 A0
          go_wp2
          go_ret
          rw [HO.out]
          exact ⟨rfl, _, HF.out⟩
      | false =>
        cases d3 : (a.k == 3) with
        | true =>
          have HO : Hid (actO n s a = (0, failO n s a.x)) := by unfold actO; rw [if_neg (by simpa using d0), if_neg (by simpa using d1), if_neg (by simpa using d2), if_pos (by simpa using d3)]; exact rfl
          have HX : Hid (∀ w', Bth B w w' h hr b n s s w.heap.size #[.int .i64 a.k, .int .i64 a.x, .int .i64 a.y, .string a.t] → Calls Try.prog 33 #[.pointer (some ⟨h, 0, none⟩), .int .i64 a.x] w' fun e w'' => e = .returned (.int .i64 (((failO n s a.x).1 : Nat) : Int)) ∧ Bth B w w'' h hr b n (failO n s a.x).2 s w.heap.size #[.int .i64 a.k, .int .i64 a.x, .int .i64 a.y, .string a.t]) := Lib.hid fun w' t => (fail_all t.ours a.x).mono fun e w'' ⟨h1, h2⟩ => ⟨h1, t.one h2⟩
          have HY : Hid (∀ w', Bth B w w' h hr b n (failO n s a.x).2 s w.heap.size #[.int .i64 a.k, .int .i64 a.x, .int .i64 a.y, .string a.t] → Calls Try.prog 39 #[.pointer (some ⟨hr, 0, none⟩), .int .i64 a.x] w' fun e w'' => e = .returned (.int .i64 (((failO n s a.x).1 : Nat) : Int)) ∧ Bth B w w'' h hr b n (failO n s a.x).2 (failO n s a.x).2 w.heap.size #[.int .i64 a.k, .int .i64 a.x, .int .i64 a.y, .string a.t]) := Lib.hid fun w' t => (rfail_all t.theirs a.x).mono fun e w'' ⟨h1, h2⟩ => ⟨h1, t.two h2⟩
          have A0 := HB.out.drew
          go_wp2_with fail
          go_region_held3 (fun w' => w'.cell? ⟨w.heap.size, 1, none⟩ = some (.int .i64 a.x) ∧ w'.cell? ⟨w.heap.size, 2, none⟩ = some (.int .i64 a.y))
            (first
              | exact HALL.out _ _ _ (by assumption))
            (first
              | (go_at_call 33; refine (HX.out _ (by assumption)).mono ?_; rintro e5 w5 ⟨rfl, t5⟩)
              | (go_at_call 39; refine (HY.out _ (by assumption)).mono ?_; rintro e6 w6 ⟨rfl, t6⟩)
              | fail)
          all_goals
            have HF := Lib.hid t6
            clear t5 t6 A0
            go_wp2
            go_ret
            rw [HO.out]
            exact ⟨rfl, _, HF.out⟩
        | false =>
          cases d4 : (a.k == 4) with
          | true =>
            have HO : Hid (actO n s a = (0, restartO n s a.x)) := by unfold actO; rw [if_neg (by simpa using d0), if_neg (by simpa using d1), if_neg (by simpa using d2), if_neg (by simpa using d3), if_pos (by simpa using d4)]; exact rfl
            have HX : Hid (∀ w', Bth B w w' h hr b n s s w.heap.size #[.int .i64 a.k, .int .i64 a.x, .int .i64 a.y, .string a.t] → Calls Try.prog 34 #[.pointer (some ⟨h, 0, none⟩), .int .i64 a.x] w' fun e w'' => e = .returned (.int .i64 (((restartO n s a.x).1 : Nat) : Int)) ∧ Bth B w w'' h hr b n (restartO n s a.x).2 s w.heap.size #[.int .i64 a.k, .int .i64 a.x, .int .i64 a.y, .string a.t]) := Lib.hid fun w' t => (restart_all t.ours a.x).mono fun e w'' ⟨h1, h2⟩ => ⟨h1, t.one h2⟩
            have HY : Hid (∀ w', Bth B w w' h hr b n (restartO n s a.x).2 s w.heap.size #[.int .i64 a.k, .int .i64 a.x, .int .i64 a.y, .string a.t] → Calls Try.prog 40 #[.pointer (some ⟨hr, 0, none⟩), .int .i64 a.x] w' fun e w'' => e = .returned (.int .i64 (((restartO n s a.x).1 : Nat) : Int)) ∧ Bth B w w'' h hr b n (restartO n s a.x).2 (restartO n s a.x).2 w.heap.size #[.int .i64 a.k, .int .i64 a.x, .int .i64 a.y, .string a.t]) := Lib.hid fun w' t => (rrestart_all t.theirs a.x (fun i _ => HDL.out i)).mono fun e w'' ⟨h1, h2⟩ => ⟨h1, t.two h2⟩
            have A0 := HB.out.drew
            go_wp2_with fail
            go_region_held3 (fun w' => w'.cell? ⟨w.heap.size, 1, none⟩ = some (.int .i64 a.x) ∧ w'.cell? ⟨w.heap.size, 2, none⟩ = some (.int .i64 a.y))
              (first
                | exact HALL.out _ _ _ (by assumption))
              (first
                | (go_at_call 34; refine (HX.out _ (by assumption)).mono ?_; rintro e5 w5 ⟨rfl, t5⟩)
                | (go_at_call 40; refine (HY.out _ (by assumption)).mono ?_; rintro e6 w6 ⟨rfl, t6⟩)
                | fail)
            all_goals
              have HF := Lib.hid t6
              clear t5 t6 A0
              go_wp2
              go_ret
              rw [HO.out]
              exact ⟨rfl, _, HF.out⟩
          | false =>
            cases d5 : (a.k == 5) with
            | true =>
              have HO : Hid (actO n s a = (0, cutO n s a.x)) := by unfold actO; rw [if_neg (by simpa using d0), if_neg (by simpa using d1), if_neg (by simpa using d2), if_neg (by simpa using d3), if_neg (by simpa using d4), if_pos (by simpa using d5)]; exact rfl
              have HX : Hid (∀ w', Bth B w w' h hr b n s s w.heap.size #[.int .i64 a.k, .int .i64 a.x, .int .i64 a.y, .string a.t] → Calls Try.prog 18 #[.pointer (some ⟨h, 0, none⟩), .int .i64 a.x] w' fun e w'' => e = .returned (.int .i64 (((cutO n s a.x).1 : Nat) : Int)) ∧ Bth B w w'' h hr b n (cutO n s a.x).2 s w.heap.size #[.int .i64 a.k, .int .i64 a.x, .int .i64 a.y, .string a.t]) := Lib.hid fun w' t => (cut_all t.ours a.x).mono fun e w'' ⟨h1, h2⟩ => ⟨h1, t.one h2⟩
              have HY : Hid (∀ w', Bth B w w' h hr b n (cutO n s a.x).2 s w.heap.size #[.int .i64 a.k, .int .i64 a.x, .int .i64 a.y, .string a.t] → Calls Try.prog 41 #[.pointer (some ⟨hr, 0, none⟩), .int .i64 a.x] w' fun e w'' => e = .returned (.int .i64 (((cutO n s a.x).1 : Nat) : Int)) ∧ Bth B w w'' h hr b n (cutO n s a.x).2 (cutO n s a.x).2 w.heap.size #[.int .i64 a.k, .int .i64 a.x, .int .i64 a.y, .string a.t]) := Lib.hid fun w' t => (rcut_all t.theirs a.x).mono fun e w'' ⟨h1, h2⟩ => ⟨h1, t.two h2⟩
              have A0 := HB.out.drew
              go_wp2_with fail
              go_region_held3 (fun w' => w'.cell? ⟨w.heap.size, 1, none⟩ = some (.int .i64 a.x) ∧ w'.cell? ⟨w.heap.size, 2, none⟩ = some (.int .i64 a.y))
                (first
                  | exact HALL.out _ _ _ (by assumption))
                (first
                  | (go_at_call 18; refine (HX.out _ (by assumption)).mono ?_; rintro e5 w5 ⟨rfl, t5⟩)
                  | (go_at_call 41; refine (HY.out _ (by assumption)).mono ?_; rintro e6 w6 ⟨rfl, t6⟩)
                  | fail)
              all_goals
                have HF := Lib.hid t6
                clear t5 t6 A0
                go_wp2
                go_ret
                rw [HO.out]
                exact ⟨rfl, _, HF.out⟩
            | false =>
              have HO : Hid (actO n s a = (0, joinO n s a.x)) := by unfold actO; rw [if_neg (by simpa using d0), if_neg (by simpa using d1), if_neg (by simpa using d2), if_neg (by simpa using d3), if_neg (by simpa using d4), if_neg (by simpa using d5)]; exact rfl
              have HX : Hid (∀ w', Bth B w w' h hr b n s s w.heap.size #[.int .i64 a.k, .int .i64 a.x, .int .i64 a.y, .string a.t] → Calls Try.prog 19 #[.pointer (some ⟨h, 0, none⟩), .int .i64 a.x] w' fun e w'' => e = .returned (.int .i64 (((joinO n s a.x).1 : Nat) : Int)) ∧ Bth B w w'' h hr b n (joinO n s a.x).2 s w.heap.size #[.int .i64 a.k, .int .i64 a.x, .int .i64 a.y, .string a.t]) := Lib.hid fun w' t => (join_all t.ours a.x).mono fun e w'' ⟨h1, h2⟩ => ⟨h1, t.one h2⟩
              have HY : Hid (∀ w', Bth B w w' h hr b n (joinO n s a.x).2 s w.heap.size #[.int .i64 a.k, .int .i64 a.x, .int .i64 a.y, .string a.t] → Calls Try.prog 42 #[.pointer (some ⟨hr, 0, none⟩), .int .i64 a.x] w' fun e w'' => e = .returned (.int .i64 (((joinO n s a.x).1 : Nat) : Int)) ∧ Bth B w w'' h hr b n (joinO n s a.x).2 (joinO n s a.x).2 w.heap.size #[.int .i64 a.k, .int .i64 a.x, .int .i64 a.y, .string a.t]) := Lib.hid fun w' t => (rjoin_all t.theirs a.x).mono fun e w'' ⟨h1, h2⟩ => ⟨h1, t.two h2⟩
              have A0 := HB.out.drew
              go_wp2_with fail
              go_region_held3 (fun w' => w'.cell? ⟨w.heap.size, 1, none⟩ = some (.int .i64 a.x) ∧ w'.cell? ⟨w.heap.size, 2, none⟩ = some (.int .i64 a.y))
                (first
                  | exact HALL.out _ _ _ (by assumption))
                (first
                  | (go_at_call 19; refine (HX.out _ (by assumption)).mono ?_; rintro e5 w5 ⟨rfl, t5⟩)
                  | (go_at_call 42; refine (HY.out _ (by assumption)).mono ?_; rintro e6 w6 ⟨rfl, t6⟩)
                  | fail)
              all_goals
                have HF := Lib.hid t6
                clear t5 t6 A0
                go_wp2
                go_ret
                rw [HO.out]
                exact ⟨rfl, _, HF.out⟩
set_option maxHeartbeats 4000000 in
set_option maxRecDepth 100000 in
theorem play_long {B : Nat} {w : World} {h hr b n K : Nat} {s : St} {a : Ac} (o : Obj B w h n s) (r : RObj B w hr b n s) (hL : Lim s K) (hK : K ≤ 1000) (hdl : Dl s) (hm : a.t.size ≤ maxLen) (ht : 20 < a.t.size) :
    Calls Try.prog 23 #[.pointer (some ⟨h, 0, none⟩), .pointer (some ⟨hr, 0, none⟩), .agg #[.int .i64 a.k, .int .i64 a.x, .int .i64 a.y, .string a.t]] w fun e w' => e = .returned (.bool true) ∧ ∃ cs, Bth B w w' h hr b n (actO n s a).2.2 (actO n s a).2.2 w.heap.size cs := by
  unfold maxLen at hm
  have HL := Lib.hid hL
  have HDL := Lib.hid hdl
  have HCUT : Hid (cut20 a.t = a.t.extract 0 20) := by unfold cut20; rw [Nat.min_eq_right (by omega)]; exact rfl
  have HS : Hid ((a.t.extract 0 20).size ≤ 20) := by rw [← HCUT.out]; exact cut20_size _
  have HB := Lib.hid (Bth.start o r #[.int .i64 a.k, .int .i64 a.x, .int .i64 a.y, .string (a.t.extract 0 20)])
  have HALL : Hid (∀ w' s1 s2, Bth B w w' h hr b n s1 s2 w.heap.size #[.int .i64 a.k, .int .i64 a.x, .int .i64 a.y, .string (a.t.extract 0 20)] → w'.cell? ⟨w.heap.size, 1, none⟩ = some (.int .i64 a.x) ∧ w'.cell? ⟨w.heap.size, 2, none⟩ = some (.int .i64 a.y)) := Lib.hid fun w' s1 s2 t => ⟨t.act.cell 1, t.act.cell 2⟩
  clear o r hL hdl
  go_enter Try.func23, Try.ntmps23
  cases d0 : (a.k == 0) with
  | true =>
    have HO : Hid (actO n s a = (0, leadO n s a.x)) := by unfold actO; rw [if_pos (by simpa using d0)]; exact rfl
    have HX : Hid (∀ w', Bth B w w' h hr b n s s w.heap.size #[.int .i64 a.k, .int .i64 a.x, .int .i64 a.y, .string (a.t.extract 0 20)] → Calls Try.prog 11 #[.pointer (some ⟨h, 0, none⟩), .int .i64 a.x] w' fun e w'' => e = .returned (.int .i64 (((leadO n s a.x).1 : Nat) : Int)) ∧ Bth B w w'' h hr b n (leadO n s a.x).2 s w.heap.size #[.int .i64 a.k, .int .i64 a.x, .int .i64 a.y, .string (a.t.extract 0 20)]) := Lib.hid fun w' t => (lead_all t.ours HL.out hK a.x).mono fun e w'' ⟨h1, h2⟩ => ⟨h1, t.one h2⟩
    have HY : Hid (∀ w', Bth B w w' h hr b n (leadO n s a.x).2 s w.heap.size #[.int .i64 a.k, .int .i64 a.x, .int .i64 a.y, .string (a.t.extract 0 20)] → Calls Try.prog 36 #[.pointer (some ⟨hr, 0, none⟩), .int .i64 a.x] w' fun e w'' => e = .returned (.int .i64 (((leadO n s a.x).1 : Nat) : Int)) ∧ Bth B w w'' h hr b n (leadO n s a.x).2 (leadO n s a.x).2 w.heap.size #[.int .i64 a.k, .int .i64 a.x, .int .i64 a.y, .string (a.t.extract 0 20)]) := Lib.hid fun w' t => (rlead_all t.theirs HL.out hK a.x).mono fun e w'' ⟨h1, h2⟩ => ⟨h1, t.two h2⟩
    have A0 := HB.out.drew
    go_wp2_with fail
    go_region_held3 (fun w' => w'.cell? ⟨w.heap.size, 1, none⟩ = some (.int .i64 a.x) ∧ w'.cell? ⟨w.heap.size, 2, none⟩ = some (.int .i64 a.y))
      (first
        | exact HALL.out _ _ _ (by assumption))
      (first
        | (go_at_call 11; refine (HX.out _ (by assumption)).mono ?_; rintro e5 w5 ⟨rfl, t5⟩)
        | (go_at_call 36; refine (HY.out _ (by assumption)).mono ?_; rintro e6 w6 ⟨rfl, t6⟩)
        | fail)
    all_goals
      have HF := Lib.hid t6
      clear t5 t6 A0
      go_wp2
      go_ret
      rw [HO.out]
      exact ⟨rfl, _, HF.out⟩
  | false =>
    cases d1 : (a.k == 1) with
    | true =>
      have HO : Hid (actO n s a = propO n s a.x (cut20 a.t)) := by unfold actO; rw [if_neg (by simpa using d0), if_pos (by simpa using d1)]; exact rfl
      go_wp2_with fail
      refine (prop_all HB.out.ours HL.out hK a.x HS.out).mono ?_
      rintro e w6 ⟨rfl, hd⟩
      have HB6 := Lib.hid (HB.out.one hd)
      obtain ⟨c1, c2⟩ := HALL.out _ _ _ HB6.out
      have c3 : w6.cell? ⟨w.heap.size, 3, none⟩ = some (.string (a.t.extract 0 20)) := HB6.out.act.cell 3
      clear hd
      go_wp2_with fail
      refine (rprop_all HB6.out.theirs HL.out hK a.x HS.out).mono ?_
      rintro e w7 ⟨rfl, hd⟩
      have HF := Lib.hid (HB6.out.two hd)
      clear hd c1 c2 c3
      go_wp2
      go_ret
      rw [HO.out]
      try rw [HCUT.out]
      exact ⟨rfl, _, HF.out⟩
    | false =>
      cases d2 : (a.k == 2) with
      | true =>
        have HO : Hid (actO n s a = (0, copyO n s a.x a.y)) := by unfold actO; rw [if_neg (by simpa using d0), if_neg (by simpa using d1), if_pos (by simpa using d2)]; exact rfl
        have HX : Hid (∀ w', Bth B w w' h hr b n s s w.heap.size #[.int .i64 a.k, .int .i64 a.x, .int .i64 a.y, .string (a.t.extract 0 20)] → Calls Try.prog 15 #[.pointer (some ⟨h, 0, none⟩), .int .i64 a.x, .int .i64 a.y] w' fun e w'' => e = .returned (.int .i64 (((copyO n s a.x a.y).1 : Nat) : Int)) ∧ Bth B w w'' h hr b n (copyO n s a.x a.y).2 s w.heap.size #[.int .i64 a.k, .int .i64 a.x, .int .i64 a.y, .string (a.t.extract 0 20)]) := Lib.hid fun w' t => (copy_all t.ours a.x a.y).mono fun e w'' ⟨h1, h2⟩ => ⟨h1, t.one h2⟩
        have HY : Hid (∀ w', Bth B w w' h hr b n (copyO n s a.x a.y).2 s w.heap.size #[.int .i64 a.k, .int .i64 a.x, .int .i64 a.y, .string (a.t.extract 0 20)] → Calls Try.prog 38 #[.pointer (some ⟨hr, 0, none⟩), .int .i64 a.x, .int .i64 a.y] w' fun e w'' => e = .returned (.int .i64 (((copyO n s a.x a.y).1 : Nat) : Int)) ∧ Bth B w w'' h hr b n (copyO n s a.x a.y).2 (copyO n s a.x a.y).2 w.heap.size #[.int .i64 a.k, .int .i64 a.x, .int .i64 a.y, .string (a.t.extract 0 20)]) := Lib.hid fun w' t => (rcopy_all t.theirs a.x a.y).mono fun e w'' ⟨h1, h2⟩ => ⟨h1, t.two h2⟩
        have A0 := HB.out.drew
        go_wp2_with fail
        go_region_held3 (fun w' => w'.cell? ⟨w.heap.size, 1, none⟩ = some (.int .i64 a.x) ∧ w'.cell? ⟨w.heap.size, 2, none⟩ = some (.int .i64 a.y))
          (first
            | exact HALL.out _ _ _ (by assumption))
          (first
            | (go_at_call 15; refine (HX.out _ (by assumption)).mono ?_; rintro e5 w5 ⟨rfl, t5⟩)
            | (go_at_call 38; refine (HY.out _ (by assumption)).mono ?_; rintro e6 w6 ⟨rfl, t6⟩)
            | fail)
        all_goals
          have HF := Lib.hid t6
          clear t5 t6 A0
          go_wp2
          go_ret
          rw [HO.out]
          exact ⟨rfl, _, HF.out⟩
      | false =>
        cases d3 : (a.k == 3) with
        | true =>
          have HO : Hid (actO n s a = (0, failO n s a.x)) := by unfold actO; rw [if_neg (by simpa using d0), if_neg (by simpa using d1), if_neg (by simpa using d2), if_pos (by simpa using d3)]; exact rfl
          have HX : Hid (∀ w', Bth B w w' h hr b n s s w.heap.size #[.int .i64 a.k, .int .i64 a.x, .int .i64 a.y, .string (a.t.extract 0 20)] → Calls Try.prog 33 #[.pointer (some ⟨h, 0, none⟩), .int .i64 a.x] w' fun e w'' => e = .returned (.int .i64 (((failO n s a.x).1 : Nat) : Int)) ∧ Bth B w w'' h hr b n (failO n s a.x).2 s w.heap.size #[.int .i64 a.k, .int .i64 a.x, .int .i64 a.y, .string (a.t.extract 0 20)]) := Lib.hid fun w' t => (fail_all t.ours a.x).mono fun e w'' ⟨h1, h2⟩ => ⟨h1, t.one h2⟩
          have HY : Hid (∀ w', Bth B w w' h hr b n (failO n s a.x).2 s w.heap.size #[.int .i64 a.k, .int .i64 a.x, .int .i64 a.y, .string (a.t.extract 0 20)] → Calls Try.prog 39 #[.pointer (some ⟨hr, 0, none⟩), .int .i64 a.x] w' fun e w'' => e = .returned (.int .i64 (((failO n s a.x).1 : Nat) : Int)) ∧ Bth B w w'' h hr b n (failO n s a.x).2 (failO n s a.x).2 w.heap.size #[.int .i64 a.k, .int .i64 a.x, .int .i64 a.y, .string (a.t.extract 0 20)]) := Lib.hid fun w' t => (rfail_all t.theirs a.x).mono fun e w'' ⟨h1, h2⟩ => ⟨h1, t.two h2⟩
          have A0 := HB.out.drew
          go_wp2_with fail
          go_region_held3 (fun w' => w'.cell? ⟨w.heap.size, 1, none⟩ = some (.int .i64 a.x) ∧ w'.cell? ⟨w.heap.size, 2, none⟩ = some (.int .i64 a.y))
            (first
              | exact HALL.out _ _ _ (by assumption))
            (first
              | (go_at_call 33; refine (HX.out _ (by assumption)).mono ?_; rintro e5 w5 ⟨rfl, t5⟩)
              | (go_at_call 39; refine (HY.out _ (by assumption)).mono ?_; rintro e6 w6 ⟨rfl, t6⟩)
              | fail)
          all_goals
            have HF := Lib.hid t6
            clear t5 t6 A0
            go_wp2
            go_ret
            rw [HO.out]
            exact ⟨rfl, _, HF.out⟩
        | false =>
          cases d4 : (a.k == 4) with
          | true =>
            have HO : Hid (actO n s a = (0, restartO n s a.x)) := by unfold actO; rw [if_neg (by simpa using d0), if_neg (by simpa using d1), if_neg (by simpa using d2), if_neg (by simpa using d3), if_pos (by simpa using d4)]; exact rfl
            have HX : Hid (∀ w', Bth B w w' h hr b n s s w.heap.size #[.int .i64 a.k, .int .i64 a.x, .int .i64 a.y, .string (a.t.extract 0 20)] → Calls Try.prog 34 #[.pointer (some ⟨h, 0, none⟩), .int .i64 a.x] w' fun e w'' => e = .returned (.int .i64 (((restartO n s a.x).1 : Nat) : Int)) ∧ Bth B w w'' h hr b n (restartO n s a.x).2 s w.heap.size #[.int .i64 a.k, .int .i64 a.x, .int .i64 a.y, .string (a.t.extract 0 20)]) := Lib.hid fun w' t => (restart_all t.ours a.x).mono fun e w'' ⟨h1, h2⟩ => ⟨h1, t.one h2⟩
            have HY : Hid (∀ w', Bth B w w' h hr b n (restartO n s a.x).2 s w.heap.size #[.int .i64 a.k, .int .i64 a.x, .int .i64 a.y, .string (a.t.extract 0 20)] → Calls Try.prog 40 #[.pointer (some ⟨hr, 0, none⟩), .int .i64 a.x] w' fun e w'' => e = .returned (.int .i64 (((restartO n s a.x).1 : Nat) : Int)) ∧ Bth B w w'' h hr b n (restartO n s a.x).2 (restartO n s a.x).2 w.heap.size #[.int .i64 a.k, .int .i64 a.x, .int .i64 a.y, .string (a.t.extract 0 20)]) := Lib.hid fun w' t => (rrestart_all t.theirs a.x (fun i _ => HDL.out i)).mono fun e w'' ⟨h1, h2⟩ => ⟨h1, t.two h2⟩
            have A0 := HB.out.drew
            go_wp2_with fail
            go_region_held3 (fun w' => w'.cell? ⟨w.heap.size, 1, none⟩ = some (.int .i64 a.x) ∧ w'.cell? ⟨w.heap.size, 2, none⟩ = some (.int .i64 a.y))
              (first
                | exact HALL.out _ _ _ (by assumption))
              (first
                | (go_at_call 34; refine (HX.out _ (by assumption)).mono ?_; rintro e5 w5 ⟨rfl, t5⟩)
                | (go_at_call 40; refine (HY.out _ (by assumption)).mono ?_; rintro e6 w6 ⟨rfl, t6⟩)
                | fail)
            all_goals
              have HF := Lib.hid t6
              clear t5 t6 A0
              go_wp2
              go_ret
              rw [HO.out]
              exact ⟨rfl, _, HF.out⟩
          | false =>
            cases d5 : (a.k == 5) with
            | true =>
              have HO : Hid (actO n s a = (0, cutO n s a.x)) := by unfold actO; rw [if_neg (by simpa using d0), if_neg (by simpa using d1), if_neg (by simpa using d2), if_neg (by simpa using d3), if_neg (by simpa using d4), if_pos (by simpa using d5)]; exact rfl
              have HX : Hid (∀ w', Bth B w w' h hr b n s s w.heap.size #[.int .i64 a.k, .int .i64 a.x, .int .i64 a.y, .string (a.t.extract 0 20)] → Calls Try.prog 18 #[.pointer (some ⟨h, 0, none⟩), .int .i64 a.x] w' fun e w'' => e = .returned (.int .i64 (((cutO n s a.x).1 : Nat) : Int)) ∧ Bth B w w'' h hr b n (cutO n s a.x).2 s w.heap.size #[.int .i64 a.k, .int .i64 a.x, .int .i64 a.y, .string (a.t.extract 0 20)]) := Lib.hid fun w' t => (cut_all t.ours a.x).mono fun e w'' ⟨h1, h2⟩ => ⟨h1, t.one h2⟩
              have HY : Hid (∀ w', Bth B w w' h hr b n (cutO n s a.x).2 s w.heap.size #[.int .i64 a.k, .int .i64 a.x, .int .i64 a.y, .string (a.t.extract 0 20)] → Calls Try.prog 41 #[.pointer (some ⟨hr, 0, none⟩), .int .i64 a.x] w' fun e w'' => e = .returned (.int .i64 (((cutO n s a.x).1 : Nat) : Int)) ∧ Bth B w w'' h hr b n (cutO n s a.x).2 (cutO n s a.x).2 w.heap.size #[.int .i64 a.k, .int .i64 a.x, .int .i64 a.y, .string (a.t.extract 0 20)]) := Lib.hid fun w' t => (rcut_all t.theirs a.x).mono fun e w'' ⟨h1, h2⟩ => ⟨h1, t.two h2⟩
              have A0 := HB.out.drew
              go_wp2_with fail
              go_region_held3 (fun w' => w'.cell? ⟨w.heap.size, 1, none⟩ = some (.int .i64 a.x) ∧ w'.cell? ⟨w.heap.size, 2, none⟩ = some (.int .i64 a.y))
                (first
                  | exact HALL.out _ _ _ (by assumption))
                (first
                  | (go_at_call 18; refine (HX.out _ (by assumption)).mono ?_; rintro e5 w5 ⟨rfl, t5⟩)
                  | (go_at_call 41; refine (HY.out _ (by assumption)).mono ?_; rintro e6 w6 ⟨rfl, t6⟩)
                  | fail)
              all_goals
                have HF := Lib.hid t6
                clear t5 t6 A0
                go_wp2
                go_ret
                rw [HO.out]
                exact ⟨rfl, _, HF.out⟩
            | false =>
              have HO : Hid (actO n s a = (0, joinO n s a.x)) := by unfold actO; rw [if_neg (by simpa using d0), if_neg (by simpa using d1), if_neg (by simpa using d2), if_neg (by simpa using d3), if_neg (by simpa using d4), if_neg (by simpa using d5)]; exact rfl
              have HX : Hid (∀ w', Bth B w w' h hr b n s s w.heap.size #[.int .i64 a.k, .int .i64 a.x, .int .i64 a.y, .string (a.t.extract 0 20)] → Calls Try.prog 19 #[.pointer (some ⟨h, 0, none⟩), .int .i64 a.x] w' fun e w'' => e = .returned (.int .i64 (((joinO n s a.x).1 : Nat) : Int)) ∧ Bth B w w'' h hr b n (joinO n s a.x).2 s w.heap.size #[.int .i64 a.k, .int .i64 a.x, .int .i64 a.y, .string (a.t.extract 0 20)]) := Lib.hid fun w' t => (join_all t.ours a.x).mono fun e w'' ⟨h1, h2⟩ => ⟨h1, t.one h2⟩
              have HY : Hid (∀ w', Bth B w w' h hr b n (joinO n s a.x).2 s w.heap.size #[.int .i64 a.k, .int .i64 a.x, .int .i64 a.y, .string (a.t.extract 0 20)] → Calls Try.prog 42 #[.pointer (some ⟨hr, 0, none⟩), .int .i64 a.x] w' fun e w'' => e = .returned (.int .i64 (((joinO n s a.x).1 : Nat) : Int)) ∧ Bth B w w'' h hr b n (joinO n s a.x).2 (joinO n s a.x).2 w.heap.size #[.int .i64 a.k, .int .i64 a.x, .int .i64 a.y, .string (a.t.extract 0 20)]) := Lib.hid fun w' t => (rjoin_all t.theirs a.x).mono fun e w'' ⟨h1, h2⟩ => ⟨h1, t.two h2⟩
              have A0 := HB.out.drew
              go_wp2_with fail
              go_region_held3 (fun w' => w'.cell? ⟨w.heap.size, 1, none⟩ = some (.int .i64 a.x) ∧ w'.cell? ⟨w.heap.size, 2, none⟩ = some (.int .i64 a.y))
                (first
                  | exact HALL.out _ _ _ (by assumption))
                (first
                  | (go_at_call 19; refine (HX.out _ (by assumption)).mono ?_; rintro e5 w5 ⟨rfl, t5⟩)
                  | (go_at_call 42; refine (HY.out _ (by assumption)).mono ?_; rintro e6 w6 ⟨rfl, t6⟩)
                  | fail)
              all_goals
                have HF := Lib.hid t6
                clear t5 t6 A0
                go_wp2
                go_ret
                rw [HO.out]
                exact ⟨rfl, _, HF.out⟩
theorem play_any {B : Nat} {w : World} {h hr b n K : Nat} {s : St} {a : Ac} (o : Obj B w h n s) (r : RObj B w hr b n s) (hL : Lim s K) (hK : K ≤ 1000) (hdl : Dl s) (hm : a.t.size ≤ maxLen) :
    Calls Try.prog 23 #[.pointer (some ⟨h, 0, none⟩), .pointer (some ⟨hr, 0, none⟩), .agg #[.int .i64 a.k, .int .i64 a.x, .int .i64 a.y, .string a.t]] w fun e w' => e = .returned (.bool true) ∧ ∃ cs, Bth B w w' h hr b n (actO n s a).2.2 (actO n s a).2.2 w.heap.size cs := by
  by_cases ht : a.t.size ≤ 20
  · exact play_short o r hL hK hdl hm ht
  · exact play_long o r hL hK hdl hm (by omega)
end Rp
end Go.Proofs.Ytdbpbpnbcjbchaa
