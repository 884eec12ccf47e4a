/- The walks of the reference's account: Sale, Refund, Cash. -/
import Derived.Test.YtpalmlcepppifaaRetRef5
set_option linter.unusedVariables false
namespace Go.Proofs.Ytpalmlcepppifaa
open Go.RowKit

/-- What a call of the reference leaves. -/
def RLeft (B : Nat) (w : World) (h : Nat) (t : Rt.Tm) (x : Rt.St) (L : Nat) (v : Nat → Value) (y : Value) (e : Ending) (w' : World) : Prop :=
  e = .returned y ∧ RefE B w' h t x L ∧ Below B w w' ∧ Frm w w' h v
theorem RLeft.same {B : Nat} {w : World} {h : Nat} {t : Rt.Tm} {x : Rt.St} {L : Nat} {v : Nat → Value} {y : Value} (r : RefE B w h t x L) (n : Nat) : RLeft B w h t x (L + 1) v y (.returned y) (w.drewN n) :=
  ⟨rfl, (r.keep (below_drewN (Below.refl _ _) n)).more (Nat.le_succ _), below_drewN (Below.refl _ _) n, fun _ _ _ _ => rfl⟩
theorem Ref.drewN {B : Nat} {w : World} {h : Nat} {t : Rt.Tm} {x : Rt.St} {L : Nat} {v : Nat → Value} {n : Nat → Nat} {F : Nat → Nat → Int} (r : Ref B w h t x L v n F) (m : Nat) : Ref B (w.drewN m) h t x L v n F := r.keep (below_drewN (Below.refl _ _) m)
/-- The sums, in whatever order they are drawn. -/
theorem Ref.sums {B : Nat} {w : World} {h : Nat} {t : Rt.Tm} {x : Rt.St} {L : Nat} {v : Nat → Value} {n : Nat → Nat} {F : Nat → Nat → Int} (r : Ref B w h t x L v n F) (hL : L ≤ 1000) {i : Nat} (hi : i < 3) {A : Option Addr} {c : Nat} (hA : Cells w A (n i * 1) (IntV (F i))) :
    ∀ m, Calls Try.prog 54 #[.slice A (n i) c] (w.drewN m) fun e w' => e = .returned (.int .i64 (sel x i)) ∧ w.drewN m = w' := fun m => by
  have hs := r.okx
  have h1 : sel x i ≤ 1000000000000 := by
    obtain ⟨⟨s0, s1⟩, ⟨s2, s3⟩, ⟨s4, s5⟩⟩ := hs
    unfold sel; split
    · exact s1
    · split
      · exact s3
      · exact s5
  exact rsum_at (by have := r.len i hi; omega) hA (r.rows i hi).pos (r.rows i hi).sum h1

set_option maxHeartbeats 4000000 in
set_option maxRecDepth 100000 in
theorem refSale_any {a : Int} {B : Nat} {w : World} {h : Nat} {t : Rt.Tm} {x : Rt.St} {L : Nat} {v : Nat → Value} {n : Nat → Nat} {F : Nat → Nat → Int} (hr : Ref B w h t x L v n F) (hL : L ≤ 999) (ht : Rt.okT t) (hBw : B ≤ w.heap.size) :
    Calls Try.prog 49 #[.pointer (some ⟨h, 0, none⟩), .int .i64 a] w (RLeft B w h t (Rt.nxt t x 0 a) (L + 1) v (.int .i64 (Rt.sErr t x a))) := by
  obtain ⟨i0, hi, hz0, hz1, hz2⟩ := info_parts Try.infoInt49
  have HRE := Lib.hid (show RefE B w h t x L from ⟨_, _, _, hr⟩)
  have hokn := Rt.okS_nxt (t := t) (k := 0) (a := a) hr.okx
  obtain ⟨⟨t00, t01⟩, ⟨t10, t11⟩, ⟨t20, t21⟩⟩ := hr.okx
  obtain ⟨_, _, _, _, ⟨k0, k1⟩⟩ := ht
  obtain ⟨A, c, hv, q0, q1, q2, q3, q4, q5, q6, q7, f5, f6, f7⟩ := hr.open_
  have HC0 := Lib.hid (hv 0 (by omega)).2
  have HC1 := Lib.hid (hv 1 (by omega)).2
  have HC2 := Lib.hid (hv 2 (by omega)).2
  have HR := Lib.hid hr
  have HOKN := Lib.hid hokn
  clear hr hv hokn
  by_cases hrm : Rt.room x.s a = 0
  · obtain ⟨a0, a1, a2⟩ := Rt.room_ok hrm
    have HRM := Lib.hid hrm
    clear hrm
    by_cases hk : t.credit = 0
    · have hd : (t.credit != 0) = false := by simp [hk]
      have HK := Lib.hid hk
      clear hk
      have HE := Lib.hid (show Rt.sErr t x a = 0 from Rt.sErr_yes HRM.out (.inl HK.out))
      have hn : Rt.nxt t x 0 a = ⟨x.s + a, x.r, x.c⟩ := by unfold Rt.nxt; rw [if_pos rfl, if_pos HE.out]
      have HOK := HOKN
      rw [hn] at HOK ⊢
      rw [HE.out]
      clear hn
      have HS0 := Lib.hid (show ∀ m, Calls Try.prog 54 #[.slice (A 0) (n 0) (c 0)] (w.drewN m) fun e w' => e = .returned (.int .i64 x.s) ∧ w.drewN m = w' from HR.out.sums (by omega) (i := 0) (by omega) HC0.out)
      have HS1 := Lib.hid (show ∀ m, Calls Try.prog 54 #[.slice (A 1) (n 1) (c 1)] (w.drewN m) fun e w' => e = .returned (.int .i64 x.r) ∧ w.drewN m = w' from HR.out.sums (by omega) (i := 1) (by omega) HC1.out)
      have HS2 := Lib.hid (show ∀ m, Calls Try.prog 54 #[.slice (A 2) (n 2) (c 2)] (w.drewN m) fun e w' => e = .returned (.int .i64 x.c) ∧ w.drewN m = w' from HR.out.sums (by omega) (i := 2) (by omega) HC2.out)
      go_enter Try.func49, Try.ntmps49
      go_wp2_with fail
      refine (fits_at (by have := HR.out.len 0 (by omega); omega) HC0.out (HR.out.rows 0 (by omega)).pos (show sm (F 0) (n 0) = x.s from (HR.out.rows 0 (by omega)).sum) t00 t01 HRM.out).mono ?_
      rintro e w1 ⟨rfl, rfl⟩
      go_wp2_with fail
      go_quiet ((first
        | (go_at_call 54; with_reducible exact quiet_left (HS0.out _))
        | (go_at_call 54; with_reducible exact quiet_left (HS1.out _))
        | (go_at_call 54; with_reducible exact quiet_left (HS2.out _))))
      replace HR := Lib.hid (HR.out.drewN nq)
      have HB := Lib.hid (below_drewN (Below.refl B w) nq)
      have HFR := Lib.hid (show Frm w (w.drewN nq) h v from fun _ _ _ _ => rfl)
      have hdz : (w.drewN nq).heap.size = w.heap.size := rfl
      have hdz2 : w.heap.size ≤ (w.drewN nq).heap.size := Nat.le_refl _
      clear hdz
      clear q0 q1 q2 q3 q4 q5 q6 q7 f5 f6 f7 HC0 HC1 HC2 HS0 HS1 HS2
      generalize w.drewN nq = W at HR HB HFR hdz2 ⊢
      obtain ⟨A, c, hv, q0, q1, q2, q3, q4, q5, q6, q7, f5, f6, f7⟩ := HR.out.open_
      have hown : (W.alloc (.cells #[.int .i64 a] 3)).ownsRow B 3 1 (.slice (A 0) (n 0) (c 0)) (n 0) (row (n 0 * 1) (IntV (F 0))) := by
        rw [← (hv 0 (by omega)).1]; exact own_keep (HR.out.rows 0 (by omega)).own ((Below.refl _ _).alloc (Nat.le_refl _) _)
      have hvi := (hv 0 (by omega)).1
      have HVI := Lib.hid hvi
      have hln := HR.out.len 0 (by omega)
      have hhlt := HR.out.blk.lt
      have hbh := HR.out.hB
      have HOWN := Lib.hid hown
      clear hv hown hvi
      go_wp2_with (at_builtin; refine wpList_append_lies _ rfl _ _ 81 rfl B 3 i0 (.int .i64 0) 1 8 Try.underlying81 hi hz0 hz1 hz2 rfl (by omega) (.slice (A 0) (n 0) (c 0)) (n 0) (row (n 0 * 1) (IntV (F 0))) (by rfl) HOWN.out ⟨W.heap.size, 0, none⟩ 1 1 [.int .i64 a] (by rfl) rfl ?c1 ?c2 (by omega) ?c3 ?c4 ?c5 (W.heap.size + 1) ?c6 ?_)
      case c1 =>
        intro j u hj
        exact new_cell rfl (by simpa using hj)
      case c2 => intro u hu; simp at hu; subst hu; rfl
      case c3 => unfold maxLen; omega
      case c4 => omega
      case c5 => simp; omega
      case c6 => simp
      intro g cap w3 hown1 hgrow hat hlt3
      have HR0 := Lib.hid (HR.out.keep ((Below.refl _ _).alloc (Nat.le_refl _) (.cells #[.int .i64 a] 3)))
      rw [← HVI.out] at hgrow hat
      have hblk1 := HR0.out.blk.grown hgrow (fun e => HR0.out.off 0 (by omega) e.symm)
      have qs := hblk1.cell 5
      have fs := hblk1.frozen 5
      simp at qs
      have HPUSH := Lib.hid (HR0.out.push (i := 0) (x' := ⟨x.s + a, x.r, x.c⟩) (a := a) (by omega) hown1 hgrow (by simpa using hat) a0 HOK.out (fun j hj => by
        rcases (show j = 0 ∨ j = 1 ∨ j = 2 by omega) with rfl | rfl | rfl <;> rfl))
      have HFF := Lib.hid (((HFR.out.alloc hdz2 (.cells #[.int .i64 a] 3)).grow (by simp; omega) (i := 0) (by omega) hgrow).seth 5 (.slice (some ⟨g, 0, none⟩) (n 0 + 1) cap))
      have HBB := Lib.hid (own_below (B := B) ((Below.refl B W).alloc (by omega) (.cells #[.int .i64 a] 3)) HOWN.out (by simp; omega) (by rw [HVI.out] at hgrow; exact hgrow))
      clear hown1 hgrow hat hblk1 q0 q1 q2 q3 q4 q5 q6 q7 f5 f6 f7
      go_wp2
      go_ret
      exact ⟨rfl, HPUSH.out, (HB.out.trans HBB.out).setCell (p := ⟨h, 5, none⟩) hbh _, HFF.out⟩
    · have hd : (t.credit != 0) = true := by simp [hk]
      by_cases hc : t.credit < x.s - x.r + a - x.c
      · have HE := Lib.hid (show Rt.sErr t x a = 32 from Rt.sErr_credit HRM.out hk hc)
        have hn : Rt.nxt t x 0 a = x := by unfold Rt.nxt; rw [if_pos rfl, if_neg (by rw [HE.out]; decide)]
        rw [hn, HE.out]
        have hc2 : t.credit < x.s + a - x.r - x.c := by omega
        clear hn hk
        have HS0 := Lib.hid (show ∀ m, Calls Try.prog 54 #[.slice (A 0) (n 0) (c 0)] (w.drewN m) fun e w' => e = .returned (.int .i64 x.s) ∧ w.drewN m = w' from HR.out.sums (by omega) (i := 0) (by omega) HC0.out)
        have HS1 := Lib.hid (show ∀ m, Calls Try.prog 54 #[.slice (A 1) (n 1) (c 1)] (w.drewN m) fun e w' => e = .returned (.int .i64 x.r) ∧ w.drewN m = w' from HR.out.sums (by omega) (i := 1) (by omega) HC1.out)
        have HS2 := Lib.hid (show ∀ m, Calls Try.prog 54 #[.slice (A 2) (n 2) (c 2)] (w.drewN m) fun e w' => e = .returned (.int .i64 x.c) ∧ w.drewN m = w' from HR.out.sums (by omega) (i := 2) (by omega) HC2.out)
        go_enter Try.func49, Try.ntmps49
        go_wp2_with fail
        refine (fits_at (by have := HR.out.len 0 (by omega); omega) HC0.out (HR.out.rows 0 (by omega)).pos (show sm (F 0) (n 0) = x.s from (HR.out.rows 0 (by omega)).sum) t00 t01 HRM.out).mono ?_
        rintro e w1 ⟨rfl, rfl⟩
        go_wp2_with fail
        go_quiet ((first
          | (go_at_call 54; with_reducible exact quiet_left (HS0.out _))
          | (go_at_call 54; with_reducible exact quiet_left (HS1.out _))
          | (go_at_call 54; with_reducible exact quiet_left (HS2.out _))))
        go_wp2
        go_ret
        exact RLeft.same HRE.out _
      · have hc2 : x.s + a - x.r - x.c ≤ t.credit := by omega
        have HK := Lib.hid (show x.s - x.r + a - x.c ≤ t.credit by omega)
        clear hk hc
        have HE := Lib.hid (show Rt.sErr t x a = 0 from Rt.sErr_yes HRM.out (.inr HK.out))
        have hn : Rt.nxt t x 0 a = ⟨x.s + a, x.r, x.c⟩ := by unfold Rt.nxt; rw [if_pos rfl, if_pos HE.out]
        have HOK := HOKN
        rw [hn] at HOK ⊢
        rw [HE.out]
        clear hn
        have HS0 := Lib.hid (show ∀ m, Calls Try.prog 54 #[.slice (A 0) (n 0) (c 0)] (w.drewN m) fun e w' => e = .returned (.int .i64 x.s) ∧ w.drewN m = w' from HR.out.sums (by omega) (i := 0) (by omega) HC0.out)
        have HS1 := Lib.hid (show ∀ m, Calls Try.prog 54 #[.slice (A 1) (n 1) (c 1)] (w.drewN m) fun e w' => e = .returned (.int .i64 x.r) ∧ w.drewN m = w' from HR.out.sums (by omega) (i := 1) (by omega) HC1.out)
        have HS2 := Lib.hid (show ∀ m, Calls Try.prog 54 #[.slice (A 2) (n 2) (c 2)] (w.drewN m) fun e w' => e = .returned (.int .i64 x.c) ∧ w.drewN m = w' from HR.out.sums (by omega) (i := 2) (by omega) HC2.out)
        go_enter Try.func49, Try.ntmps49
        go_wp2_with fail
        refine (fits_at (by have := HR.out.len 0 (by omega); omega) HC0.out (HR.out.rows 0 (by omega)).pos (show sm (F 0) (n 0) = x.s from (HR.out.rows 0 (by omega)).sum) t00 t01 HRM.out).mono ?_
        rintro e w1 ⟨rfl, rfl⟩
        go_wp2_with fail
        go_quiet ((first
          | (go_at_call 54; with_reducible exact quiet_left (HS0.out _))
          | (go_at_call 54; with_reducible exact quiet_left (HS1.out _))
          | (go_at_call 54; with_reducible exact quiet_left (HS2.out _))))
        replace HR := Lib.hid (HR.out.drewN nq)
        have HB := Lib.hid (below_drewN (Below.refl B w) nq)
        have HFR := Lib.hid (show Frm w (w.drewN nq) h v from fun _ _ _ _ => rfl)
        have hdz : (w.drewN nq).heap.size = w.heap.size := rfl
        have hdz2 : w.heap.size ≤ (w.drewN nq).heap.size := Nat.le_refl _
        clear hdz
        clear q0 q1 q2 q3 q4 q5 q6 q7 f5 f6 f7 HC0 HC1 HC2 HS0 HS1 HS2
        generalize w.drewN nq = W at HR HB HFR hdz2 ⊢
        obtain ⟨A, c, hv, q0, q1, q2, q3, q4, q5, q6, q7, f5, f6, f7⟩ := HR.out.open_
        have hown : (W.alloc (.cells #[.int .i64 a] 3)).ownsRow B 3 1 (.slice (A 0) (n 0) (c 0)) (n 0) (row (n 0 * 1) (IntV (F 0))) := by
          rw [← (hv 0 (by omega)).1]; exact own_keep (HR.out.rows 0 (by omega)).own ((Below.refl _ _).alloc (Nat.le_refl _) _)
        have hvi := (hv 0 (by omega)).1
        have HVI := Lib.hid hvi
        have hln := HR.out.len 0 (by omega)
        have hhlt := HR.out.blk.lt
        have hbh := HR.out.hB
        have HOWN := Lib.hid hown
        clear hv hown hvi
        go_wp2_with (at_builtin; refine wpList_append_lies _ rfl _ _ 81 rfl B 3 i0 (.int .i64 0) 1 8 Try.underlying81 hi hz0 hz1 hz2 rfl (by omega) (.slice (A 0) (n 0) (c 0)) (n 0) (row (n 0 * 1) (IntV (F 0))) (by rfl) HOWN.out ⟨W.heap.size, 0, none⟩ 1 1 [.int .i64 a] (by rfl) rfl ?c1 ?c2 (by omega) ?c3 ?c4 ?c5 (W.heap.size + 1) ?c6 ?_)
        case c1 =>
          intro j u hj
          exact new_cell rfl (by simpa using hj)
        case c2 => intro u hu; simp at hu; subst hu; rfl
        case c3 => unfold maxLen; omega
        case c4 => omega
        case c5 => simp; omega
        case c6 => simp
        intro g cap w3 hown1 hgrow hat hlt3
        have HR0 := Lib.hid (HR.out.keep ((Below.refl _ _).alloc (Nat.le_refl _) (.cells #[.int .i64 a] 3)))
        rw [← HVI.out] at hgrow hat
        have hblk1 := HR0.out.blk.grown hgrow (fun e => HR0.out.off 0 (by omega) e.symm)
        have qs := hblk1.cell 5
        have fs := hblk1.frozen 5
        simp at qs
        have HPUSH := Lib.hid (HR0.out.push (i := 0) (x' := ⟨x.s + a, x.r, x.c⟩) (a := a) (by omega) hown1 hgrow (by simpa using hat) a0 HOK.out (fun j hj => by
          rcases (show j = 0 ∨ j = 1 ∨ j = 2 by omega) with rfl | rfl | rfl <;> rfl))
        have HFF := Lib.hid (((HFR.out.alloc hdz2 (.cells #[.int .i64 a] 3)).grow (by simp; omega) (i := 0) (by omega) hgrow).seth 5 (.slice (some ⟨g, 0, none⟩) (n 0 + 1) cap))
        have HBB := Lib.hid (own_below (B := B) ((Below.refl B W).alloc (by omega) (.cells #[.int .i64 a] 3)) HOWN.out (by simp; omega) (by rw [HVI.out] at hgrow; exact hgrow))
        clear hown1 hgrow hat hblk1 q0 q1 q2 q3 q4 q5 q6 q7 f5 f6 f7
        go_wp2
        go_ret
        exact ⟨rfl, HPUSH.out, (HB.out.trans HBB.out).setCell (p := ⟨h, 5, none⟩) hbh _, HFF.out⟩
  · obtain ⟨y, hy⟩ : ∃ y, Rt.room x.s a = y := ⟨_, rfl⟩
    rw [hy] at hrm
    have HRM := Lib.hid hy
    have HNE := Lib.hid (show Rt.sErr t x a ≠ 0 by rw [Rt.sErr_room (by rw [hy]; exact hrm), hy]; exact hrm)
    have hn : Rt.nxt t x 0 a = x := by unfold Rt.nxt; rw [if_pos rfl, if_neg HNE.out]
    rw [hn, Rt.sErr_room (by rw [hy]; exact hrm), hy]
    clear hn hy
    go_enter Try.func49, Try.ntmps49
    go_wp2_with fail
    refine (fits_at (by have := HR.out.len 0 (by omega); omega) HC0.out (HR.out.rows 0 (by omega)).pos (show sm (F 0) (n 0) = x.s from (HR.out.rows 0 (by omega)).sum) t00 t01 HRM.out).mono ?_
    rintro e w1 ⟨rfl, rfl⟩
    go_wp2
    go_ret
    exact RLeft.same HRE.out 0
set_option maxHeartbeats 4000000 in
set_option maxRecDepth 100000 in
theorem refRefund_any {a : Int} {B : Nat} {w : World} {h : Nat} {t : Rt.Tm} {x : Rt.St} {L : Nat} {v : Nat → Value} {n : Nat → Nat} {F : Nat → Nat → Int} (hr : Ref B w h t x L v n F) (hL : L ≤ 999) (ht : Rt.okT t) (hBw : B ≤ w.heap.size) :
    Calls Try.prog 50 #[.pointer (some ⟨h, 0, none⟩), .int .i64 a] w (RLeft B w h t (Rt.nxt t x 1 a) (L + 1) v (.int .i64 (Rt.room x.r a))) := by
  obtain ⟨i0, hi, hz0, hz1, hz2⟩ := info_parts Try.infoInt49
  have HRE := Lib.hid (show RefE B w h t x L from ⟨_, _, _, hr⟩)
  have hokn := Rt.okS_nxt (t := t) (k := 1) (a := a) hr.okx
  obtain ⟨⟨t00, t01⟩, ⟨t10, t11⟩, ⟨t20, t21⟩⟩ := hr.okx
  obtain ⟨_, _, _, _, ⟨k0, k1⟩⟩ := ht
  obtain ⟨A, c, hv, q0, q1, q2, q3, q4, q5, q6, q7, f5, f6, f7⟩ := hr.open_
  have HC0 := Lib.hid (hv 0 (by omega)).2
  have HC1 := Lib.hid (hv 1 (by omega)).2
  have HC2 := Lib.hid (hv 2 (by omega)).2
  have HR := Lib.hid hr
  have HOKN := Lib.hid hokn
  clear hr hv hokn
  by_cases hrm : Rt.room x.r a = 0
  · obtain ⟨a0, a1, a2⟩ := Rt.room_ok hrm
    have HRM := Lib.hid hrm
    clear hrm
    have HE := HRM
    have hn : Rt.nxt t x 1 a = ⟨x.s, x.r + a, x.c⟩ := by unfold Rt.nxt; rw [if_neg (by decide), if_pos rfl, if_pos HE.out]
    have HOK := HOKN
    rw [hn] at HOK ⊢
    rw [HRM.out]
    clear hn
    go_enter Try.func50, Try.ntmps50
    go_wp2_with fail
    refine (fits_at (by have := HR.out.len 1 (by omega); omega) HC1.out (HR.out.rows 1 (by omega)).pos (show sm (F 1) (n 1) = x.r from (HR.out.rows 1 (by omega)).sum) t10 t11 HRM.out).mono ?_
    rintro e w1 ⟨rfl, rfl⟩
    have HB := Lib.hid (Below.refl B w)
    have HFR := Lib.hid (show Frm w w h v from fun _ _ _ _ => rfl)
    clear q0 q1 q2 q3 q4 q5 q6 q7 f5 f6 f7 HC0 HC1 HC2
    obtain ⟨A, c, hv, q0, q1, q2, q3, q4, q5, q6, q7, f5, f6, f7⟩ := HR.out.open_
    have hown : (w.alloc (.cells #[.int .i64 a] 3)).ownsRow B 3 1 (.slice (A 1) (n 1) (c 1)) (n 1) (row (n 1 * 1) (IntV (F 1))) := by
      rw [← (hv 1 (by omega)).1]; exact own_keep (HR.out.rows 1 (by omega)).own ((Below.refl _ _).alloc (Nat.le_refl _) _)
    have hvi := (hv 1 (by omega)).1
    have HVI := Lib.hid hvi
    have hln := HR.out.len 1 (by omega)
    have hhlt := HR.out.blk.lt
    have hbh := HR.out.hB
    have HOWN := Lib.hid hown
    clear hv hown hvi
    go_wp2_with (at_builtin; refine wpList_append_lies _ rfl _ _ 81 rfl B 3 i0 (.int .i64 0) 1 8 Try.underlying81 hi hz0 hz1 hz2 rfl (by omega) (.slice (A 1) (n 1) (c 1)) (n 1) (row (n 1 * 1) (IntV (F 1))) (by rfl) HOWN.out ⟨w.heap.size, 0, none⟩ 1 1 [.int .i64 a] (by rfl) rfl ?c1 ?c2 (by omega) ?c3 ?c4 ?c5 (w.heap.size + 1) ?c6 ?_)
    case c1 =>
      intro j u hj
      exact new_cell rfl (by simpa using hj)
    case c2 => intro u hu; simp at hu; subst hu; rfl
    case c3 => unfold maxLen; omega
    case c4 => omega
    case c5 => simp; omega
    case c6 => simp
    intro g cap w3 hown1 hgrow hat hlt3
    have HR0 := Lib.hid (HR.out.keep ((Below.refl _ _).alloc (Nat.le_refl _) (.cells #[.int .i64 a] 3)))
    rw [← HVI.out] at hgrow hat
    have hblk1 := HR0.out.blk.grown hgrow (fun e => HR0.out.off 1 (by omega) e.symm)
    have qs := hblk1.cell 6
    have fs := hblk1.frozen 6
    simp at qs
    have HPUSH := Lib.hid (HR0.out.push (i := 1) (x' := ⟨x.s, x.r + a, x.c⟩) (a := a) (by omega) hown1 hgrow (by simpa using hat) a0 HOK.out (fun j hj => by
      rcases (show j = 0 ∨ j = 1 ∨ j = 2 by omega) with rfl | rfl | rfl <;> rfl))
    have HFF := Lib.hid (((HFR.out.alloc (Nat.le_refl _) (.cells #[.int .i64 a] 3)).grow (by simp) (i := 1) (by omega) hgrow).seth 6 (.slice (some ⟨g, 0, none⟩) (n 1 + 1) cap))
    have HBB := Lib.hid (own_below (B := B) ((Below.refl B w).alloc (by omega) (.cells #[.int .i64 a] 3)) HOWN.out (by simp; omega) (by rw [HVI.out] at hgrow; exact hgrow))
    clear hown1 hgrow hat hblk1 q0 q1 q2 q3 q4 q5 q6 q7 f5 f6 f7
    go_wp2
    go_ret
    exact ⟨rfl, HPUSH.out, (HB.out.trans HBB.out).setCell (p := ⟨h, 6, none⟩) hbh _, HFF.out⟩
  · obtain ⟨y, hy⟩ : ∃ y, Rt.room x.r a = y := ⟨_, rfl⟩
    rw [hy] at hrm
    have HRM := Lib.hid hy
    have HNE := Lib.hid (show Rt.room x.r a ≠ 0 by rw [hy]; exact hrm)
    have hn : Rt.nxt t x 1 a = x := by unfold Rt.nxt; rw [if_neg (by decide), if_pos rfl, if_neg HNE.out]
    rw [hn, hy]
    clear hn hy
    go_enter Try.func50, Try.ntmps50
    go_wp2_with fail
    refine (fits_at (by have := HR.out.len 1 (by omega); omega) HC1.out (HR.out.rows 1 (by omega)).pos (show sm (F 1) (n 1) = x.r from (HR.out.rows 1 (by omega)).sum) t10 t11 HRM.out).mono ?_
    rintro e w1 ⟨rfl, rfl⟩
    go_wp2
    go_ret
    exact RLeft.same HRE.out 0
set_option maxHeartbeats 4000000 in
set_option maxRecDepth 100000 in
theorem refCash_any {a : Int} {B : Nat} {w : World} {h : Nat} {t : Rt.Tm} {x : Rt.St} {L : Nat} {v : Nat → Value} {n : Nat → Nat} {F : Nat → Nat → Int} (hr : Ref B w h t x L v n F) (hL : L ≤ 999) (ht : Rt.okT t) (hBw : B ≤ w.heap.size) :
    Calls Try.prog 51 #[.pointer (some ⟨h, 0, none⟩), .int .i64 a] w (RLeft B w h t (Rt.nxt t x 2 a) (L + 1) v (.int .i64 (Rt.room x.c a))) := by
  obtain ⟨i0, hi, hz0, hz1, hz2⟩ := info_parts Try.infoInt49
  have HRE := Lib.hid (show RefE B w h t x L from ⟨_, _, _, hr⟩)
  have hokn := Rt.okS_nxt (t := t) (k := 2) (a := a) hr.okx
  obtain ⟨⟨t00, t01⟩, ⟨t10, t11⟩, ⟨t20, t21⟩⟩ := hr.okx
  obtain ⟨_, _, _, _, ⟨k0, k1⟩⟩ := ht
  obtain ⟨A, c, hv, q0, q1, q2, q3, q4, q5, q6, q7, f5, f6, f7⟩ := hr.open_
  have HC0 := Lib.hid (hv 0 (by omega)).2
  have HC1 := Lib.hid (hv 1 (by omega)).2
  have HC2 := Lib.hid (hv 2 (by omega)).2
  have HR := Lib.hid hr
  have HOKN := Lib.hid hokn
  clear hr hv hokn
  by_cases hrm : Rt.room x.c a = 0
  · obtain ⟨a0, a1, a2⟩ := Rt.room_ok hrm
    have HRM := Lib.hid hrm
    clear hrm
    have HE := HRM
    have hn : Rt.nxt t x 2 a = ⟨x.s, x.r, x.c + a⟩ := by unfold Rt.nxt; rw [if_neg (by decide), if_neg (by decide), if_pos rfl, if_pos HE.out]
    have HOK := HOKN
    rw [hn] at HOK ⊢
    rw [HRM.out]
    clear hn
    go_enter Try.func51, Try.ntmps51
    go_wp2_with fail
    refine (fits_at (by have := HR.out.len 2 (by omega); omega) HC2.out (HR.out.rows 2 (by omega)).pos (show sm (F 2) (n 2) = x.c from (HR.out.rows 2 (by omega)).sum) t20 t21 HRM.out).mono ?_
    rintro e w1 ⟨rfl, rfl⟩
    have HB := Lib.hid (Below.refl B w)
    have HFR := Lib.hid (show Frm w w h v from fun _ _ _ _ => rfl)
    clear q0 q1 q2 q3 q4 q5 q6 q7 f5 f6 f7 HC0 HC1 HC2
    obtain ⟨A, c, hv, q0, q1, q2, q3, q4, q5, q6, q7, f5, f6, f7⟩ := HR.out.open_
    have hown : (w.alloc (.cells #[.int .i64 a] 3)).ownsRow B 3 1 (.slice (A 2) (n 2) (c 2)) (n 2) (row (n 2 * 1) (IntV (F 2))) := by
      rw [← (hv 2 (by omega)).1]; exact own_keep (HR.out.rows 2 (by omega)).own ((Below.refl _ _).alloc (Nat.le_refl _) _)
    have hvi := (hv 2 (by omega)).1
    have HVI := Lib.hid hvi
    have hln := HR.out.len 2 (by omega)
    have hhlt := HR.out.blk.lt
    have hbh := HR.out.hB
    have HOWN := Lib.hid hown
    clear hv hown hvi
    go_wp2_with (at_builtin; refine wpList_append_lies _ rfl _ _ 81 rfl B 3 i0 (.int .i64 0) 1 8 Try.underlying81 hi hz0 hz1 hz2 rfl (by omega) (.slice (A 2) (n 2) (c 2)) (n 2) (row (n 2 * 1) (IntV (F 2))) (by rfl) HOWN.out ⟨w.heap.size, 0, none⟩ 1 1 [.int .i64 a] (by rfl) rfl ?c1 ?c2 (by omega) ?c3 ?c4 ?c5 (w.heap.size + 1) ?c6 ?_)
    case c1 =>
      intro j u hj
      exact new_cell rfl (by simpa using hj)
    case c2 => intro u hu; simp at hu; subst hu; rfl
    case c3 => unfold maxLen; omega
    case c4 => omega
    case c5 => simp; omega
    case c6 => simp
    intro g cap w3 hown1 hgrow hat hlt3
    have HR0 := Lib.hid (HR.out.keep ((Below.refl _ _).alloc (Nat.le_refl _) (.cells #[.int .i64 a] 3)))
    rw [← HVI.out] at hgrow hat
    have hblk1 := HR0.out.blk.grown hgrow (fun e => HR0.out.off 2 (by omega) e.symm)
    have qs := hblk1.cell 7
    have fs := hblk1.frozen 7
    simp at qs
    have HPUSH := Lib.hid (HR0.out.push (i := 2) (x' := ⟨x.s, x.r, x.c + a⟩) (a := a) (by omega) hown1 hgrow (by simpa using hat) a0 HOK.out (fun j hj => by
      rcases (show j = 0 ∨ j = 1 ∨ j = 2 by omega) with rfl | rfl | rfl <;> rfl))
    have HFF := Lib.hid (((HFR.out.alloc (Nat.le_refl _) (.cells #[.int .i64 a] 3)).grow (by simp) (i := 2) (by omega) hgrow).seth 7 (.slice (some ⟨g, 0, none⟩) (n 2 + 1) cap))
    have HBB := Lib.hid (own_below (B := B) ((Below.refl B w).alloc (by omega) (.cells #[.int .i64 a] 3)) HOWN.out (by simp; omega) (by rw [HVI.out] at hgrow; exact hgrow))
    clear hown1 hgrow hat hblk1 q0 q1 q2 q3 q4 q5 q6 q7 f5 f6 f7
    go_wp2
    go_ret
    exact ⟨rfl, HPUSH.out, (HB.out.trans HBB.out).setCell (p := ⟨h, 7, none⟩) hbh _, HFF.out⟩
  · obtain ⟨y, hy⟩ : ∃ y, Rt.room x.c a = y := ⟨_, rfl⟩
    rw [hy] at hrm
    have HRM := Lib.hid hy
    have HNE := Lib.hid (show Rt.room x.c a ≠ 0 by rw [hy]; exact hrm)
    have hn : Rt.nxt t x 2 a = x := by unfold Rt.nxt; rw [if_neg (by decide), if_neg (by decide), if_pos rfl, if_neg HNE.out]
    rw [hn, hy]
    clear hn hy
    go_enter Try.func51, Try.ntmps51
    go_wp2_with fail
    refine (fits_at (by have := HR.out.len 2 (by omega); omega) HC2.out (HR.out.rows 2 (by omega)).pos (show sm (F 2) (n 2) = x.c from (HR.out.rows 2 (by omega)).sum) t20 t21 HRM.out).mono ?_
    rintro e w1 ⟨rfl, rfl⟩
    go_wp2
    go_ret
    exact RLeft.same HRE.out 0
end Go.Proofs.Ytpalmlcepppifaa
