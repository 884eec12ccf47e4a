/- The walk of Claim of the claims. -/
import Derived.Test.YtpalmlcepppifaaClmWrite
set_option linter.unusedVariables false
namespace Go.Proofs.Ytpalmlcepppifaa
open Go.RowKit Go.Maps Go.ChangeShapes Go.WideElems Go.WideMaps

theorem check_at {B : Nat} {w : World} {h n : Nat} {N : Nat → ByteArray} {A F E S : Nat → Int} (c : Claims B w h n N A F E S) {s : ByteArray} (hs : s.size ≤ maxLen) {at_ most u y : Int} (hu : Cm.ckV A F E S at_ most (idx N s n) = u) (hy : Cm.ckE A F E S at_ most (idx N s n) = y) :
    Calls Try.prog 22 #[.pointer (some ⟨h, 0, none⟩), .string s, .int .i64 at_, .int .i64 most] w fun e w' => e = .returned (.tuple #[.int .i64 u, .int .i64 y]) ∧ Below w.heap.size w w' := by
  subst hu hy; exact check_any c hs
theorem claim_no {B : Nat} {w : World} {h n : Nat} {N : Nat → ByteArray} {A F E S : Nat → Int} (c : Claims B w h n N A F E S) (hBw : B ≤ w.heap.size) {s : ByteArray} (hs : s.size ≤ maxLen) {at_ most y : Int} (hy : Cm.ckE A F E S at_ most (idx N s n) = y) (hn : y ≠ 0) :
    Calls Try.prog 20 #[.pointer (some ⟨h, 0, none⟩), .string s, .int .i64 at_, .int .i64 most] w (CLeft B w h n N A F E S (.tuple #[.int .i64 0, .int .i64 y])) := by
  have hv : Cm.ckV A F E S at_ most (idx N s n) = 0 := by unfold Cm.ckV; rw [if_neg (by rw [hy]; exact hn)]
  have HV := Lib.hid hv
  have HY := Lib.hid hy
  have HC := Lib.hid c
  clear hv hy c
  go_enter Try.func20, Try.ntmps20
  go_wp2_with fail
  refine (check_at HC.out hs HV.out HY.out).mono ?_
  rintro e w1 ⟨rfl, hb1⟩
  have H1 := Lib.hid hb1
  clear hb1
  go_wp2
  go_ret2
  exact ⟨rfl, HC.out.keep H1.out, H1.out.mono hBw, Kp.below H1.out⟩

set_option maxHeartbeats 4000000 in
set_option maxRecDepth 100000 in
theorem claim_yes {B : Nat} {w : World} {h n : Nat} {N : Nat → ByteArray} {A F E S : Nat → Int} (c : Claims B w h n N A F E S) (hBw : B ≤ w.heap.size) {s : ByteArray} (hs : s.size ≤ maxLen) {at_ most u : Int} (hy : Cm.ckE A F E S at_ most (idx N s n) = 0) (hu : Cm.lsum (Cm.can F E S at_) A (idx N s n) = u) :
    Calls Try.prog 20 #[.pointer (some ⟨h, 0, none⟩), .string s, .int .i64 at_, .int .i64 most] w (CLeft B w h n N A F E (Cm.payS F E S at_ (idx N s n)) (.tuple #[.int .i64 u, .int .i64 0])) := by
  have hv : Cm.ckV A F E S at_ most (idx N s n) = u := by unfold Cm.ckV; rw [if_pos hy, hu]
  have HV := Lib.hid hv
  have HY := Lib.hid hy
  have HC := Lib.hid c
  have HYY := Lib.hid hy
  clear hv hy hu c
  go_enter Try.func20, Try.ntmps20
  go_wp2_with fail
  refine (check_at HC.out hs HV.out HY.out).mono ?_
  rintro e w1 ⟨rfl, hb1⟩
  have hc1 := HC.out.keep hb1
  have HC1 := Lib.hid hc1
  have HB1 := Lib.hid (show Below B w w1 ∧ Kp w w1 from ⟨hb1.mono hBw, Kp.below hb1⟩)
  have hB1w : B ≤ w1.heap.size := Nat.le_trans hBw hb1.size
  clear hb1 HV HY
  obtain ⟨pv, b1, b2, D, O, c⟩ := hc1
  have hn8 := c.n8
  have HST := Lib.hid c.st
  obtain ⟨v, zs, hlook, hat, ho, hzl, _⟩ := look_all c.grp (by unfold maxLen; omega) hs
  rw [c.hD s hs] at hat
  have hzs := zs_eq ho hat.symm
  subst hzs
  obtain ⟨l, hl⟩ : ∃ l, l = idx N s n := ⟨_, rfl⟩
  have hlt : ∀ i ∈ l, i < n := fun i hi => idx_lt (by rw [← hl]; exact hi)
  have hlen : l.length ≤ n := by rw [hl]; exact idx_len N s n
  have hsrt : l.Pairwise (· < ·) := by rw [hl]; exact idx_sorted N s n
  rw [← hl] at ho
  obtain ⟨Aq, cq, hv, hq⟩ := ints_cells ho
  subst hv
  have L0 := hlook w1 rfl
  have hlp : 0 < l.length := by
    cases l with
    | nil => exact absurd (show Cm.ckE A F E S at_ most [] = 0 from by rw [hl]; exact HYY.out) (by unfold Cm.ckE; rw [if_pos rfl]; decide)
    | cons x l => simp
  obtain ⟨bq, rfl, hbq, _⟩ := hq 0 hlp
  obtain ⟨cur, hcur⟩ := own_obj ho.1 (g := bq) rfl
  have hBq : Blk w1 bq 3 cur := hcur
  have hqc : ∀ (k : Nat) (hk : k < l.length), cur[k]? = some (.int .i64 (l[k] : Nat)) := fun k hk => by
    obtain ⟨b', e, _, hc⟩ := hq k hk
    injection e with e
    injection e with e _
    subst e
    rw [hBq.cell k] at hc; exact hc
  have q1 := c.blk.cell 1
  simp at q1
  have HQ := Lib.hid hqc
  have HBQ := Lib.hid hBq
  have HLT := Lib.hid hlt
  have HSRT := Lib.hid hsrt
  have HL := Lib.hid hl
  clear hat hzl hlook c hq hcur hBq hqc hlt hsrt hl ho
  go_wp2
  go_loopw [32] (fun i wr => ∃ j : Nat, j ≤ l.length ∧ i = .int .i64 j ∧ Claims B wr h n N A F E (Cm.payS F E S at_ (l.take j)) ∧ (Below B w1 wr ∧ Kp w1 wr) ∧ Blk wr bq 3 cur) (fun i _ => l.length - (intOf i).toNat)
  case atStart => exact ⟨0, Nat.zero_le _, rfl, by rw [List.take_zero, Cm.payS_nil]; exact HC1.out, ⟨Below.refl _ _, Kp.refl _⟩, HBQ.out⟩
  case round =>
    clear q1 L0
    obtain ⟨j, hj, rfl, hc, hfr, hbq2⟩ := hrel
    have HCK := Lib.hid hc
    have HFR := Lib.hid hfr
    have HBQ2 := Lib.hid hbq2
    have hwz : B ≤ wr.heap.size := Nat.le_trans hB1w hfr.1.size
    clear hfr
    by_cases hjl : j < l.length
    · obtain ⟨m, hm⟩ : ∃ m, m = l[j] := ⟨_, rfl⟩
      have hmn : m < n := HLT.out m (by rw [hm]; exact List.getElem_mem _)
      have hqj := HQ.out j hjl
      rw [← hm] at hqj
      have hcq : wr.cell? ⟨bq, j, none⟩ = some (.int .i64 (m : Int)) := (hbq2.cell j).trans hqj
      have hbqlt := hbq2.lt
      have htk := take_next hjl
      rw [← hm] at htk
      have HTK := Lib.hid htk
      have hnb := not_before HSRT.out hjl
      rw [← hm] at hnb
      have hpm : Cm.payS F E S at_ (l.take j) m = S m := Cm.payS_out hnb
      obtain ⟨pv, b1', b2', D', O', c⟩ := hc
      obtain ⟨g, cap, hpv, _, hglt⟩ := c.own.form (by omega)
      subst hpv
      have q0 := c.blk.cell 0
      have q2 := c.blk.cell 2
      simp at q0 q2
      have hhlt := c.blk.lt
      obtain ⟨bp, op, hpe, hplt, p0, p1, p2, p3⟩ := (Cells.of_own c.own).four hmn
      injection hpe with hpe
      injection hpe with e1 e2
      subst e1 e2
      rw [hpm] at p3
      rw [Nat.zero_add] at p0 p1 p2 p3
      have HPM := Lib.hid hpm
      have HC := Lib.hid c
      clear htk hnb hpm hm hqj hbq2
      cases hcan : Cm.can F E S at_ m with
      | true =>
        have HSt := Lib.hid (Cm.payS_yes (l := l.take j) hcan)
        have HCB := Lib.hid (show (decide (S m = 0) && decide (F m ≤ at_) && decide (at_ ≤ E m)) = true from hcan)
        have HS0 := Lib.hid (show Cm.payS F E S at_ (l.take j) m = 0 by
          rw [HPM.out]
          have := hcan
          unfold Cm.can at this
          simp at this
          exact this.1.1)
        clear hcan
        go_wp2_with fail
        refine claimable_any.mono ?_
        rintro e' w5 ⟨rfl, hb5⟩
        rw [HCB.out]
        have hC5 := HC.out.keep hb5
        have q0' := hC5.blk.cell 0
        have q2' := hC5.blk.cell 2
        simp at q0' q2'
        obtain ⟨hopn5, hgh⟩ := hC5.stored (m := m) 1
        have hgh2 : h ≠ g := fun e => hgh e.symm
        have hfz := hC5.own.frozenAt (m * 4 + 3)
        obtain ⟨bp, op, hpe, _, p0', p1', p2', p3'⟩ := (Cells.of_own hC5.own).four hmn
        injection hpe with hpe
        injection hpe with e1 e2
        subst e1 e2
        rw [Nat.zero_add] at p0' p1' p2' p3'
        have HOPN := Lib.hid hopn5
        have h5z : B ≤ w5.heap.size := Nat.le_trans hwz hb5.size
        have HMARK := Lib.hid (show ∀ w2 : World, w2.ownsMap Try.prog 3 (plainElem Try.prog 4) b2' n (O'.del (.int .i64 m)) → (w5.setCell ⟨g, m * 4 + 3, none⟩ (.int .i64 1)).mapTurned w2 b2' →
            Claims B w2 h n N A F E (upd (Cm.payS F E S at_ (l.take j)) m 1) ∧ (Below B w1 w2 ∧ Kp w1 w2) ∧ Blk w2 bq 3 cur from fun w2 hd ht => by
          obtain ⟨m1, m2, m3⟩ := hC5.mark hmn HS0.out (by decide) h5z hd ht
          refine ⟨⟨_, _, _, _, _, m1⟩, ⟨(HFR.out.1.trans (hb5.mono hwz)).trans m2, (HFR.out.2.trans (Kp.below hb5)).trans m3⟩, ?_⟩
          have k5 := HBQ2.out.keep hb5
          obtain ⟨curp, hcp⟩ := own_obj hC5.own (g := g) rfl
          have k6 : Blk (w5.setCell ⟨g, m * 4 + 3, none⟩ (.int .i64 1)) bq 3 cur := k5.grown (hC5.own.stored (m * 4 + 3) (.int .i64 1)).2 (fun e => by
            injection e with e
            subst e
            unfold Blk at k5; rw [k5] at hcp; injection hcp with hcp; injection hcp with _ hcp; revert hcp; decide)
          obtain ⟨es, ck, hb⟩ := opn_block hopn5
          exact k6.grown ht.grown (fun e => by injection e with e; exact ne_obj k6 hb cells_map e))
        clear hb5 hC5 hopn5 p0 p1 p2 p3 q0 q2 hcq
        go_wp2_with (at_delete; refine wpList_delete_own _ rfl _ _ 75 3 rfl 4 kI Try.underlying75 (plainElem Try.prog 4) b2' n O' rfl HOPN.out (.int .i64 (m : Int)) (.int .i64 (m : Int)) rfl (keyOf_int_mk Try.underlying3 (WalkArith.wf_i64 (by omega))) ?_; intro w2 hd2 ht2; have HM2 := Lib.hid (HMARK.out _ hd2 ht2); clear hd2 ht2)
        go_roundw
        case rel => exact ⟨j + 1, by omega, by go_num, by rw [HTK.out, HSt.out]; exact HM2.out.1, HM2.out.2.1, HM2.out.2.2⟩
        case measure => simp [intOf] <;> omega
      | false =>
        have HSt := Lib.hid (Cm.payS_no (l := l.take j) hcan)
        have HCB := Lib.hid (show (decide (S m = 0) && decide (F m ≤ at_) && decide (at_ ≤ E m)) = false from hcan)
        clear hcan
        go_wp2_with fail
        refine claimable_any.mono ?_
        rintro e' w5 ⟨rfl, hb5⟩
        rw [HCB.out]
        have H5 := Lib.hid hb5
        clear hb5
        go_wp2
        go_roundw
        case rel => exact ⟨j + 1, by omega, by go_num, by rw [HTK.out, HSt.out]; exact HCK.out.keep H5.out, ⟨HFR.out.1.trans (H5.out.mono hwz), HFR.out.2.trans (Kp.below H5.out)⟩, HBQ2.out.keep H5.out⟩
        case measure => simp [intOf] <;> omega
    · obtain rfl : j = l.length := by omega
      rw [List.take_length, HL.out] at HCK
      clear hc hbq2
      go_wp2
      go_ret2
      exact ⟨rfl, HCK.out, HB1.out.1.trans HFR.out.1, HB1.out.2.trans HFR.out.2⟩
/-- Claim, as Check says. -/
def clS (A F E S : Nat → Int) (at_ most : Int) (l : List Nat) : Nat → Int := if Cm.ckE A F E S at_ most l = 0 then Cm.payS F E S at_ l else S
theorem claim_any {B : Nat} {w : World} {h n : Nat} {N : Nat → ByteArray} {A F E S : Nat → Int} (c : Claims B w h n N A F E S) (hBw : B ≤ w.heap.size) {s : ByteArray} (hs : s.size ≤ maxLen) {at_ most : Int} :
    Calls Try.prog 20 #[.pointer (some ⟨h, 0, none⟩), .string s, .int .i64 at_, .int .i64 most] w (CLeft B w h n N A F E (clS A F E S at_ most (idx N s n)) (.tuple #[.int .i64 (Cm.ckV A F E S at_ most (idx N s n)), .int .i64 (Cm.ckE A F E S at_ most (idx N s n))])) := by
  by_cases hy : Cm.ckE A F E S at_ most (idx N s n) = 0
  · have e1 : clS A F E S at_ most (idx N s n) = Cm.payS F E S at_ (idx N s n) := by unfold clS; rw [if_pos hy]
    have e2 : Cm.ckV A F E S at_ most (idx N s n) = Cm.lsum (Cm.can F E S at_) A (idx N s n) := by unfold Cm.ckV; rw [if_pos hy]
    rw [e1, e2, hy]
    exact claim_yes c hBw hs hy rfl
  · have e1 : clS A F E S at_ most (idx N s n) = S := by unfold clS; rw [if_neg hy]
    have e2 : Cm.ckV A F E S at_ most (idx N s n) = 0 := by unfold Cm.ckV; rw [if_neg hy]
    rw [e1, e2]
    exact claim_no c hBw hs rfl hy
end Go.Proofs.Ytpalmlcepppifaa
