/- The walk of the reference's Check. -/
import Derived.Test.YtpalmlcepppifaaClmRef3
set_option linter.unusedVariables false
namespace Go.Proofs.Ytpalmlcepppifaa
open Go.RowKit Go.ChangeShapes

theorem data_eq {a b : ByteArray} (h : a.data.toList = b.data.toList) : a = b := by
  obtain ⟨⟨x⟩⟩ := a; obtain ⟨⟨y⟩⟩ := b; simp at h; subst h; rfl
theorem idx_yes {N : Nat → ByteArray} {s : ByteArray} {k : Nat} (h : (N k).data.toList = s.data.toList) : idx N s (k + 1) = idx N s k ++ [k] := by simp only [idx]; rw [if_pos h]
theorem idx_no {N : Nat → ByteArray} {s : ByteArray} {k : Nat} (h : ¬ (N k).data.toList = s.data.toList) : idx N s (k + 1) = idx N s k := by simp only [idx]; rw [if_neg h]
theorem snoc_not (l : List Nat) (k : Nat) : (l ++ [k]).isEmpty = false := by cases l <;> rfl

set_option maxHeartbeats 8000000 in
set_option maxRecDepth 100000 in
theorem rcheck_any {B : Nat} {w : World} {h n : Nat} {N : Nat → ByteArray} {A F E S : Nat → Int} (c : Refs B w h n N A F E S) {s : ByteArray} {at_ most : Int} :
    Calls Try.prog 59 #[.pointer (some ⟨h, 0, none⟩), .string s, .int .i64 at_, .int .i64 most] w fun e w' => e = .returned (.tuple #[.int .i64 (Cm.ckV A F E S at_ most (idx N s n)), .int .i64 (Cm.ckE A F E S at_ most (idx N s n))]) ∧ Below w.heap.size w w' := by
  obtain ⟨v, c⟩ := c
  have hn8 := c.n8
  obtain ⟨pA, pc, hpv, _⟩ := own_slice c.own
  subst hpv
  have HBLK := Lib.hid c.blk
  have q0 := c.blk.cell 0
  simp at q0
  have HP := Lib.hid (Cells.of_own c.own)
  have HST := Lib.hid c.st
  have HSS := Lib.hid c.ss
  clear c
  go_enter Try.func59, Try.ntmps59
  go_wp2
  go_loopw [10, 11, 12, 13, 14, 15] (fun v10 v11 v12 v13 v14 i wr => ∃ (k : Nat) (u : Int) (f y e t : Bool), k ≤ n ∧ i = .int .i64 k ∧ v10 = .int .i64 u ∧ v11 = .bool f ∧ v12 = .bool y ∧ v13 = .bool e ∧ v14 = .bool t ∧ (Cm.Acc A F E S at_ (idx N s k) u f e t ∧ (idx N s k).isEmpty = !y) ∧ Below w.heap.size w wr) (fun _ _ _ _ _ i _ => n - (intOf i).toNat)
  case atStart => exact ⟨0, 0, false, false, false, false, Nat.zero_le _, rfl, rfl, rfl, rfl, rfl, rfl, ⟨⟨rfl, rfl, rfl, rfl⟩, rfl⟩, Below.refl _ _⟩
  case round =>
    obtain ⟨k, u, f, y, e, t, hk, rfl, rfl, rfl, rfl, rfl, rfl, hacc, hbw⟩ := hrel
    clear q0
    have q0 := (HBLK.out.keep hbw).cell 0
    simp at q0
    have HACC := Lib.hid hacc
    have HBW := Lib.hid hbw
    clear hacc
    by_cases hkn : k < n
    · obtain ⟨bp, op, hpe, hplt, p0, p1, p2, p3, p4⟩ := (HP.out.below hbw).five hkn
      subst hpe
      have hhw := (HBLK.out.keep hbw).lt
      have HBX := Lib.hid (hbw.alloc hbw.size (.cells #[.string (N k), .int .i64 (A k), .int .i64 (F k), .int .i64 (E k), .int .i64 (S k)] 98))
      clear hbw
      by_cases he : (N k).data.toList = s.data.toList
      · have d0 : (N k).toList = s.toList := by rw [data_eq he]
        have d1 : ((N k).toList == s.toList) = true := by rw [d0]; simp
        have HI := Lib.hid (idx_yes he)
        have hbd := Cm.lsum_bd (p := Cm.can F E S at_) (l := idx N s k) (fun i hi => HST.out i (Nat.lt_trans (idx_lt hi) hkn))
        rw [HACC.out.1.su] at hbd
        obtain ⟨u0, u1⟩ := hbd
        have htl := idx_len N s k
        have u2 : u ≤ 8192000000000000 := by omega
        obtain ⟨am0, am1⟩ := HST.out k hkn
        obtain ⟨sm0, sm1⟩ := HSS.out k hkn
        clear u1 htl d0 he
        by_cases hS0 : S k = 0
        · have d3 : (S k == 0) = true := by simp [hS0]
          have d4 : (S k != 1) = true := by simp [hS0]
          by_cases hF : F k ≤ at_
          · by_cases hE : at_ ≤ E k
            · have h1 : Cm.can F E S at_ k = true := by unfold Cm.can; simp [hS0, hF, hE]
              have h2 : Cm.early F S at_ k = false := by unfold Cm.early; simp; omega
              have dF : decide (at_ < F k) = false := by simp; omega
              have DF := Lib.hid dF
              clear dF
              have h3 : Cm.late S k = true := by unfold Cm.late; simp [hS0]
              have HCB := Lib.hid (show (decide (S k = 0) && decide (F k ≤ at_) && decide (at_ ≤ E k)) = true from h1)
              have HN := Lib.hid (HACC.out.1.next k h1 h2 h3)
              clear h1 h2 h3 hS0
              go_wp2_with fail
              refine can_any.mono ?_
              rintro e' w5 ⟨rfl, hb5⟩
              rw [HCB.out]
              have hsz5 := hb5.size
              have x0 : w5.cell? ⟨wr.heap.size, 0, none⟩ = some (.string (N k)) := by rw [hb5.cell (p := ⟨wr.heap.size, 0, none⟩) (by simp), World.cell?_alloc_at _ _ _ _ rfl]; rfl
              have x1 : w5.cell? ⟨wr.heap.size, 1, none⟩ = some (.int .i64 (A k)) := by rw [hb5.cell (p := ⟨wr.heap.size, 1, none⟩) (by simp), World.cell?_alloc_at _ _ _ _ rfl]; rfl
              have x2 : w5.cell? ⟨wr.heap.size, 2, none⟩ = some (.int .i64 (F k)) := by rw [hb5.cell (p := ⟨wr.heap.size, 2, none⟩) (by simp), World.cell?_alloc_at _ _ _ _ rfl]; rfl
              have x4 : w5.cell? ⟨wr.heap.size, 4, none⟩ = some (.int .i64 (S k)) := by rw [hb5.cell (p := ⟨wr.heap.size, 4, none⟩) (by simp), World.cell?_alloc_at _ _ _ _ rfl]; rfl
              have HB5 := Lib.hid (Below.on HBX.out hb5)
              clear hb5 p0 p1 p2 p3 p4
              cases e
              all_goals
                cases t
                all_goals
                  go_wp2
                  go_roundw
                  case rel => exact ⟨k + 1, _, _, _, _, _, by omega, by go_num, rfl, rfl, rfl, rfl, rfl, by rw [HI.out]; exact ⟨by simpa [DF.out] using HN.out, snoc_not _ _⟩, HB5.out⟩
                  case measure => simp [intOf] <;> omega
            · have h1 : Cm.can F E S at_ k = false := by unfold Cm.can; simp; omega
              have h2 : Cm.early F S at_ k = false := by unfold Cm.early; simp; omega
              have dF : decide (at_ < F k) = false := by simp; omega
              have DF := Lib.hid dF
              clear dF
              have h3 : Cm.late S k = true := by unfold Cm.late; simp [hS0]
              have HCB := Lib.hid (show (decide (S k = 0) && decide (F k ≤ at_) && decide (at_ ≤ E k)) = false from h1)
              have HN := Lib.hid (HACC.out.1.next k h1 h2 h3)
              clear h1 h2 h3 hS0
              go_wp2_with fail
              refine can_any.mono ?_
              rintro e' w5 ⟨rfl, hb5⟩
              rw [HCB.out]
              have hsz5 := hb5.size
              have x0 : w5.cell? ⟨wr.heap.size, 0, none⟩ = some (.string (N k)) := by rw [hb5.cell (p := ⟨wr.heap.size, 0, none⟩) (by simp), World.cell?_alloc_at _ _ _ _ rfl]; rfl
              have x1 : w5.cell? ⟨wr.heap.size, 1, none⟩ = some (.int .i64 (A k)) := by rw [hb5.cell (p := ⟨wr.heap.size, 1, none⟩) (by simp), World.cell?_alloc_at _ _ _ _ rfl]; rfl
              have x2 : w5.cell? ⟨wr.heap.size, 2, none⟩ = some (.int .i64 (F k)) := by rw [hb5.cell (p := ⟨wr.heap.size, 2, none⟩) (by simp), World.cell?_alloc_at _ _ _ _ rfl]; rfl
              have x4 : w5.cell? ⟨wr.heap.size, 4, none⟩ = some (.int .i64 (S k)) := by rw [hb5.cell (p := ⟨wr.heap.size, 4, none⟩) (by simp), World.cell?_alloc_at _ _ _ _ rfl]; rfl
              have HB5 := Lib.hid (Below.on HBX.out hb5)
              clear hb5 p0 p1 p2 p3 p4
              cases e
              all_goals
                cases t
                all_goals
                  go_wp2
                  go_roundw
                  case rel => exact ⟨k + 1, _, _, _, _, _, by omega, by go_num, rfl, rfl, rfl, rfl, rfl, by rw [HI.out]; exact ⟨by simpa [DF.out] using HN.out, snoc_not _ _⟩, HB5.out⟩
                  case measure => simp [intOf] <;> omega
          · have h1 : Cm.can F E S at_ k = false := by unfold Cm.can; simp; omega
            have h2 : Cm.early F S at_ k = true := by unfold Cm.early; simp [hS0]; omega
            have hF2 : at_ < F k := by omega
            have DF := Lib.hid (show decide (at_ < F k) = true by simp; omega)
            have h3 : Cm.late S k = true := by unfold Cm.late; simp [hS0]
            have HCB := Lib.hid (show (decide (S k = 0) && decide (F k ≤ at_) && decide (at_ ≤ E k)) = false from h1)
            have HN := Lib.hid (HACC.out.1.next k h1 h2 h3)
            clear h1 h2 h3 hS0 hF
            go_wp2_with fail
            refine can_any.mono ?_
            rintro e' w5 ⟨rfl, hb5⟩
            rw [HCB.out]
            have hsz5 := hb5.size
            have x0 : w5.cell? ⟨wr.heap.size, 0, none⟩ = some (.string (N k)) := by rw [hb5.cell (p := ⟨wr.heap.size, 0, none⟩) (by simp), World.cell?_alloc_at _ _ _ _ rfl]; rfl
            have x1 : w5.cell? ⟨wr.heap.size, 1, none⟩ = some (.int .i64 (A k)) := by rw [hb5.cell (p := ⟨wr.heap.size, 1, none⟩) (by simp), World.cell?_alloc_at _ _ _ _ rfl]; rfl
            have x2 : w5.cell? ⟨wr.heap.size, 2, none⟩ = some (.int .i64 (F k)) := by rw [hb5.cell (p := ⟨wr.heap.size, 2, none⟩) (by simp), World.cell?_alloc_at _ _ _ _ rfl]; rfl
            have x4 : w5.cell? ⟨wr.heap.size, 4, none⟩ = some (.int .i64 (S k)) := by rw [hb5.cell (p := ⟨wr.heap.size, 4, none⟩) (by simp), World.cell?_alloc_at _ _ _ _ rfl]; rfl
            have HB5 := Lib.hid (Below.on HBX.out hb5)
            clear hb5 p0 p1 p2 p3 p4
            cases e
            all_goals
              cases t
              all_goals
                go_wp2
                go_roundw
                case rel => exact ⟨k + 1, _, _, _, _, _, by omega, by go_num, rfl, rfl, rfl, rfl, rfl, by rw [HI.out]; exact ⟨by simpa [DF.out] using HN.out, snoc_not _ _⟩, HB5.out⟩
                case measure => simp [intOf] <;> omega
        · have d3 : (S k == 0) = false := by simp [hS0]
          have h1 : Cm.can F E S at_ k = false := by unfold Cm.can; simp [hS0]
          have h2 : Cm.early F S at_ k = false := by unfold Cm.early; simp [hS0]
          by_cases hS1 : S k = 1
          · have d4 : (S k != 1) = false := by simp [hS1]
            have h3 : Cm.late S k = false := by unfold Cm.late; simp; omega
            have HCB := Lib.hid (show (decide (S k = 0) && decide (F k ≤ at_) && decide (at_ ≤ E k)) = false from h1)
            have HN := Lib.hid (HACC.out.1.next k h1 h2 h3)
            clear h1 h2 h3 hS0 hS1
            go_wp2_with fail
            refine can_any.mono ?_
            rintro e' w5 ⟨rfl, hb5⟩
            rw [HCB.out]
            have hsz5 := hb5.size
            have x0 : w5.cell? ⟨wr.heap.size, 0, none⟩ = some (.string (N k)) := by rw [hb5.cell (p := ⟨wr.heap.size, 0, none⟩) (by simp), World.cell?_alloc_at _ _ _ _ rfl]; rfl
            have x1 : w5.cell? ⟨wr.heap.size, 1, none⟩ = some (.int .i64 (A k)) := by rw [hb5.cell (p := ⟨wr.heap.size, 1, none⟩) (by simp), World.cell?_alloc_at _ _ _ _ rfl]; rfl
            have x2 : w5.cell? ⟨wr.heap.size, 2, none⟩ = some (.int .i64 (F k)) := by rw [hb5.cell (p := ⟨wr.heap.size, 2, none⟩) (by simp), World.cell?_alloc_at _ _ _ _ rfl]; rfl
            have x4 : w5.cell? ⟨wr.heap.size, 4, none⟩ = some (.int .i64 (S k)) := by rw [hb5.cell (p := ⟨wr.heap.size, 4, none⟩) (by simp), World.cell?_alloc_at _ _ _ _ rfl]; rfl
            have HB5 := Lib.hid (Below.on HBX.out hb5)
            clear hb5 p0 p1 p2 p3 p4
            cases e
            all_goals
              cases t
              all_goals
                go_wp2
                go_roundw
                case rel => exact ⟨k + 1, _, _, _, _, _, by omega, by go_num, rfl, rfl, rfl, rfl, rfl, by rw [HI.out]; exact ⟨by simpa [] using HN.out, snoc_not _ _⟩, HB5.out⟩
                case measure => simp [intOf] <;> omega
          · have d4 : (S k != 1) = true := by simp [hS1]
            have h3 : Cm.late S k = true := by unfold Cm.late; simp; omega
            have HCB := Lib.hid (show (decide (S k = 0) && decide (F k ≤ at_) && decide (at_ ≤ E k)) = false from h1)
            have HN := Lib.hid (HACC.out.1.next k h1 h2 h3)
            clear h1 h2 h3 hS0 hS1
            go_wp2_with fail
            refine can_any.mono ?_
            rintro e' w5 ⟨rfl, hb5⟩
            rw [HCB.out]
            have hsz5 := hb5.size
            have x0 : w5.cell? ⟨wr.heap.size, 0, none⟩ = some (.string (N k)) := by rw [hb5.cell (p := ⟨wr.heap.size, 0, none⟩) (by simp), World.cell?_alloc_at _ _ _ _ rfl]; rfl
            have x1 : w5.cell? ⟨wr.heap.size, 1, none⟩ = some (.int .i64 (A k)) := by rw [hb5.cell (p := ⟨wr.heap.size, 1, none⟩) (by simp), World.cell?_alloc_at _ _ _ _ rfl]; rfl
            have x2 : w5.cell? ⟨wr.heap.size, 2, none⟩ = some (.int .i64 (F k)) := by rw [hb5.cell (p := ⟨wr.heap.size, 2, none⟩) (by simp), World.cell?_alloc_at _ _ _ _ rfl]; rfl
            have x4 : w5.cell? ⟨wr.heap.size, 4, none⟩ = some (.int .i64 (S k)) := by rw [hb5.cell (p := ⟨wr.heap.size, 4, none⟩) (by simp), World.cell?_alloc_at _ _ _ _ rfl]; rfl
            have HB5 := Lib.hid (Below.on HBX.out hb5)
            clear hb5 p0 p1 p2 p3 p4
            cases e
            all_goals
              cases t
              all_goals
                go_wp2
                go_roundw
                case rel => exact ⟨k + 1, _, _, _, _, _, by omega, by go_num, rfl, rfl, rfl, rfl, rfl, by rw [HI.out]; exact ⟨by simpa [] using HN.out, snoc_not _ _⟩, HB5.out⟩
                case measure => simp [intOf] <;> omega
      · have d0 : ¬ (N k).toList = s.toList := fun e => he (by rw [ByteArray.toList_eq, ByteArray.toList_eq] at e; exact e)
        have d1 : ((N k).toList == s.toList) = false := by simp [d0]
        have HI := Lib.hid (idx_no he)
        clear he d0
        go_wp2
        go_roundw
        case rel => exact ⟨k + 1, _, _, _, _, _, by omega, by go_num, rfl, rfl, rfl, rfl, rfl, by rw [HI.out]; exact HACC.out, HBX.out⟩
        case measure => simp [intOf] <;> omega
    · obtain rfl : k = n := by omega
      obtain ⟨⟨hsu, hfo, hea, hla⟩, hye⟩ := HACC.out
      have hbd := Cm.lsum_bd (p := Cm.can F E S at_) (l := idx N s k) (fun i hi => HST.out i (idx_lt hi))
      rw [hsu] at hbd
      obtain ⟨u0, u1⟩ := hbd
      clear hbw u1
      obtain ⟨l, hl⟩ : ∃ l, l = idx N s k := ⟨_, rfl⟩
      rw [← hl] at hsu hfo hea hla hye
      have HL := Lib.hid hl
      clear hl
      cases y with
      | false =>
        have hl0 : l = [] := by cases l with | nil => rfl | cons a b => cases hye
        have HE := Lib.hid (show Cm.ckE A F E S at_ most l = 5 by rw [hl0]; rfl)
        have HV := Lib.hid (show Cm.ckV A F E S at_ most l = 0 by rw [hl0]; rfl)
        clear hsu hfo hea hla hye hl0
        go_wp2
        go_ret2
        exact ⟨ret_int2 (by rw [← HL.out]; exact HV.out.symm) (by rw [← HL.out]; exact HE.out.symm), HBW.out⟩
      | true =>
        have hl0 : l ≠ [] := fun e => by subst e; cases hye
        cases f with
        | false =>
          cases e with
          | true =>
            have he : Cm.ckE A F E S at_ most l = 8 := by unfold Cm.ckE; rw [if_neg hl0, if_pos hfo, if_pos hea]
            have hv : Cm.ckV A F E S at_ most l = 0 := by unfold Cm.ckV; rw [if_neg (by rw [he]; decide)]
            have HE := Lib.hid he
            have HV := Lib.hid hv
            clear he hv hsu hfo hea hla hye hl0
            go_wp2
            go_ret2
            exact ⟨ret_int2 (by rw [← HL.out]; exact HV.out.symm) (by rw [← HL.out]; exact HE.out.symm), HBW.out⟩
          | false =>
            cases t with
            | true =>
              have he : Cm.ckE A F E S at_ most l = 16 := by unfold Cm.ckE; rw [if_neg hl0, if_pos hfo, if_neg (by rw [hea]; decide), if_pos hla]
              have hv : Cm.ckV A F E S at_ most l = 0 := by unfold Cm.ckV; rw [if_neg (by rw [he]; decide)]
              have HE := Lib.hid he
              have HV := Lib.hid hv
              clear he hv hsu hfo hea hla hye hl0
              go_wp2
              go_ret2
              exact ⟨ret_int2 (by rw [← HL.out]; exact HV.out.symm) (by rw [← HL.out]; exact HE.out.symm), HBW.out⟩
            | false =>
              have he : Cm.ckE A F E S at_ most l = 17 := by unfold Cm.ckE; rw [if_neg hl0, if_pos hfo, if_neg (by rw [hea]; decide), if_neg (by rw [hla]; decide)]
              have hv : Cm.ckV A F E S at_ most l = 0 := by unfold Cm.ckV; rw [if_neg (by rw [he]; decide)]
              have HE := Lib.hid he
              have HV := Lib.hid hv
              clear he hv hsu hfo hea hla hye hl0
              go_wp2
              go_ret2
              exact ⟨ret_int2 (by rw [← HL.out]; exact HV.out.symm) (by rw [← HL.out]; exact HE.out.symm), HBW.out⟩
        | true =>
          by_cases hov : 1000000000000 < u
          · have he : Cm.ckE A F E S at_ most l = 9 := by unfold Cm.ckE; rw [if_neg hl0, if_neg (by rw [hfo]; decide), hsu, if_pos hov]
            have hv : Cm.ckV A F E S at_ most l = 0 := by unfold Cm.ckV; rw [if_neg (by rw [he]; decide)]
            have HE := Lib.hid he
            have HV := Lib.hid hv
            clear he hv hsu hfo hea hla hye hl0
            go_wp2
            go_ret2
            exact ⟨ret_int2 (by rw [← HL.out]; exact HV.out.symm) (by rw [← HL.out]; exact HE.out.symm), HBW.out⟩
          · by_cases hmo : 0 < most ∧ most < u
            · have he : Cm.ckE A F E S at_ most l = 31 := by unfold Cm.ckE; rw [if_neg hl0, if_neg (by rw [hfo]; decide), hsu, if_neg hov, if_pos hmo]
              obtain ⟨hm0, hm1⟩ := hmo
              have hv : Cm.ckV A F E S at_ most l = 0 := by unfold Cm.ckV; rw [if_neg (by rw [he]; decide)]
              have HE := Lib.hid he
              have HV := Lib.hid hv
              clear he hv hsu hfo hea hla hye hl0
              go_wp2
              go_ret2
              exact ⟨ret_int2 (by rw [← HL.out]; exact HV.out.symm) (by rw [← HL.out]; exact HE.out.symm), HBW.out⟩
            · have he : Cm.ckE A F E S at_ most l = 0 := by unfold Cm.ckE; rw [if_neg hl0, if_neg (by rw [hfo]; decide), hsu, if_neg hov, if_neg hmo]
              have hv : Cm.ckV A F E S at_ most l = u := by unfold Cm.ckV; rw [if_pos he, hsu]
              have HE := Lib.hid he
              have HV := Lib.hid hv
              have hov2 : u ≤ 1000000000000 := by omega
              clear he hv hsu hfo hea hla hov hye hl0
              by_cases hm0 : 0 < most
              · have hm1 : u ≤ most := by omega
                clear hmo
                go_wp2
                go_ret2
                exact ⟨ret_int2 (by rw [← HL.out]; exact HV.out.symm) (by rw [← HL.out]; exact HE.out.symm), HBW.out⟩
              · clear hmo
                go_wp2
                go_ret2
                exact ⟨ret_int2 (by rw [← HL.out]; exact HV.out.symm) (by rw [← HL.out]; exact HE.out.symm), HBW.out⟩
end Go.Proofs.Ytpalmlcepppifaa
