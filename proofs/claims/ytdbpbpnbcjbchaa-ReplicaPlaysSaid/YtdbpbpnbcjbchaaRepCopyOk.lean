/- The walk of Copy where it copies. -/
import Derived.Test.YtdbpbpnbcjbchaaRepCopyNo
set_option linter.unusedVariables false
namespace Go.Proofs.Ytdbpbpnbcjbchaa
open Go.RowKit
namespace Rp
theorem run_equalIn_ptr {P : Program} (w : World) (d : Nat) (t e : TypeId) {h a b : Nat} (hu : P.underlying t = some (.pointer e)) (hs : (P.info? e).map (·.size) = some 5) :
    (Op.equalIn (d + 1) t (.pointer (some ⟨h, a, none⟩)) (.pointer (some ⟨h, b, none⟩))).run P w = .ok (decide (a = b)) w := by
  cases hq : P.info? e with
  | none => simp [hq] at hs
  | some i =>
    have h1 : i.size = 5 := by simpa [hq] using hs
    by_cases hab : a = b
    · subst hab; simp [Op.equalIn, run_underlying hu, sizeOf, typeInfo, hq, sameAddr]
    · simp [Op.equalIn, run_underlying hu, hab, sizeOf, typeInfo, hq, h1, sameAddr]
theorem run_equal_ptr {P : Program} (w : World) (t e : TypeId) {h a b : Nat} (hu : P.underlying t = some (.pointer e)) (hs : (P.info? e).map (·.size) = some 5) :
    (Op.equal t (.pointer (some ⟨h, a, none⟩)) (.pointer (some ⟨h, b, none⟩))).run P w = .ok (decide (a = b)) w := run_equalIn_ptr w 9999 t e hu hs
theorem run_neq_ptr {P : Program} (w : World) (t e : TypeId) {h a b : Nat} (hu : P.underlying t = some (.pointer e)) (hs : (P.info? e).map (·.size) = some 5) :
    (binOp .neq t (.pointer (some ⟨h, a, none⟩)) (.pointer (some ⟨h, b, none⟩))).run P w = .ok (.bool (!(decide (a = b)))) w := by
  simp only [binOp]
  simp [run_equal_ptr w t e hu hs]
theorem sizeNode : (Try.prog.info? 52).map (·.size) = some 5 := by kernel_rfl
/-- Node j has the log and the epoch of node i. -/
def copied (s : St) (i j : Nat) : St := if i = j then s else setN s j ⟨(s.nd j).down, (s.nd j).cut, (s.nd i).ep, (s.nd j).led, (s.nd i).log⟩
theorem setN_two (s : St) (j : Nat) (a b : Nd) : setN (setN s j a) j b = setN s j b := by
  unfold setN
  simp only [St.mk.injEq, and_true]
  funext k
  by_cases e : k = j
  · rw [if_pos e, if_pos e]
  · rw [if_neg e, if_neg e, if_neg e]
set_option maxHeartbeats 4000000 in
theorem copy_self {B : Nat} {w : World} {h n : Nat} {s : St} {lv : Nat → Value} {cv : Value} (c : Gp B w h n s lv cv) {i : Nat} (hi : i < n) (hy : cpe s i i = 0) :
    Calls Try.prog 15 #[.pointer (some ⟨h, 0, none⟩), .int .i64 (i : Int), .int .i64 (i : Int)] w fun e w' => e = .returned (.int .i64 0) ∧ Did B w w' h n (upd n s i) := by
  have hn7 := c.n7
  have hi7 : i < 7 := by omega
  obtain ⟨p0, p1, p2, _⟩ := c.at_ hi7
  obtain ⟨a0, hl, a1⟩ : (s.nd i).down = false ∧ ldr (s.nd i) = true ∧ (s.nd i).cut = false := by
    unfold cpe at hy
    split at hy
    · cases hy
    · rename_i h1
      split at hy
      · cases hy
      · rename_i h2
        refine ⟨?_, ?_, ?_⟩
        · cases e : (s.nd i).down with
          | false => rfl
          | true => exact (h1 (.inl e)).elim
        · cases e : ldr (s.nd i) with
          | true => rfl
          | false => exact (h1 (.inr (.inr e))).elim
        · cases e : (s.nd i).cut with
          | false => rfl
          | true => exact (h2 (.inl e)).elim
  rw [a0] at p0
  rw [a1] at p1
  have he2 : decide (((s.nd i).ep : Int) < ((s.nd i).ep : Int)) = false := by simp
  have hpq : ∀ w' : World, (binOp .neq 56 (.pointer (some ⟨h, 1 + i * 5, none⟩)) (.pointer (some ⟨h, 1 + i * 5, none⟩))).run Try.prog w' = .ok (.bool false) w' := fun w' => by
    rw [run_neq_ptr w' _ _ Try.underlying56 sizeNode, decide_eq_true rfl]; rfl
  have CL := leads_any c hi7
  rw [hl] at CL
  have HL := Lib.hid CL
  have HC := Lib.hid c
  clear c hl CL hy a0 a1
  go_enter Try.func15, Try.ntmps15
  go_wp2_with fail
  refine (find_ok HC.out rfl hi).mono ?_
  rintro e w1 ⟨rfl, rfl⟩
  go_wp2_with fail
  refine (find_ok HC.out rfl hi).mono ?_
  rintro e w1 ⟨rfl, rfl⟩
  go_wp2_with fail
  refine HL.out.mono ?_
  rintro e w1 ⟨rfl, k1, rfl⟩
  go_wp2
  go_quiet (fail)
  go_wp2_with fail
  have HDZ := Lib.hid (show Dn w (w.drewN (k1 + nq)) from ⟨k1 + nq, rfl⟩)
  have HCZ := Lib.hid (HC.out.drewN (k1 + nq))
  try rw [show (w.drewN k1).drewN nq = w.drewN (k1 + nq) by simp [World.drewN, Nat.add_assoc]]
  generalize w.drewN (k1 + nq) = wz at HDZ HCZ ⊢
  refine (update_any HCZ.out hi).mono ?_
  rintro e w6 ⟨rfl, ⟨cv6, hc6⟩, hg6⟩
  have HD6 := Lib.hid ((HC.out.drawn HDZ.out).trans (HCZ.out.did hc6 hg6))
  clear hc6 hg6
  go_wp2
  go_ret
  exact ⟨rfl, HD6.out⟩
set_option maxHeartbeats 4000000 in
theorem copy_two {B : Nat} {w : World} {h n : Nat} {s : St} {lv : Nat → Value} {cv : Value} (c : Gp B w h n s lv cv) {i j : Nat} (hi : i < n) (hj : j < n) (hij : i ≠ j) (hy : cpe s i j = 0) :
    Calls Try.prog 15 #[.pointer (some ⟨h, 0, none⟩), .int .i64 (i : Int), .int .i64 (j : Int)] w fun e w' => e = .returned (.int .i64 0) ∧ Did B w w' h n (upd n (copied s i j) i) := by
  have hn7 := c.n7
  have hi7 : i < 7 := by omega
  have hj7 : j < 7 := by omega
  obtain ⟨p0, p1, p2, _⟩ := c.at_ hi7
  obtain ⟨q0, q1, q2, _⟩ := c.at_ hj7
  obtain ⟨a0, b0, hl, a1, b1, he⟩ : (s.nd i).down = false ∧ (s.nd j).down = false ∧ ldr (s.nd i) = true ∧ (s.nd i).cut = false ∧ (s.nd j).cut = false ∧ ¬ (s.nd i).ep < (s.nd j).ep := by
    unfold cpe at hy
    split at hy
    · cases hy
    · rename_i h1
      split at hy
      · cases hy
      · rename_i h2
        split at hy
        · cases hy
        · rename_i h3
          refine ⟨?_, ?_, ?_, ?_, ?_, h3⟩
          · cases e : (s.nd i).down with
            | false => rfl
            | true => exact (h1 (.inl e)).elim
          · cases e : (s.nd j).down with
            | false => rfl
            | true => exact (h1 (.inr (.inl e))).elim
          · cases e : ldr (s.nd i) with
            | true => rfl
            | false => exact (h1 (.inr (.inr e))).elim
          · cases e : (s.nd i).cut with
            | false => rfl
            | true => exact (h2 (.inl e)).elim
          · cases e : (s.nd j).cut with
            | false => rfl
            | true => exact (h2 (.inr e)).elim
  rw [a0] at p0
  rw [a1] at p1
  rw [b0] at q0
  rw [b1] at q1
  have he2 : decide (((s.nd i).ep : Int) < ((s.nd j).ep : Int)) = false := by simp; omega
  have hpq : ∀ w' : World, (binOp .neq 56 (.pointer (some ⟨h, 1 + i * 5, none⟩)) (.pointer (some ⟨h, 1 + j * 5, none⟩))).run Try.prog w' = .ok (.bool true) w' := fun w' => by
    rw [run_neq_ptr w' _ _ Try.underlying56 sizeNode, decide_eq_false (by omega)]; rfl
  have he3 : ((s.nd j).ep : Int) ≤ ((s.nd i).ep : Int) := by omega
  have CL := leads_any c hi7
  rw [hl] at CL
  have HL := Lib.hid CL
  have HC := Lib.hid c
  have HIJ := Lib.hid hij
  clear c hl CL hy a0 a1 b0 b1 he hij
  go_enter Try.func15, Try.ntmps15
  go_wp2_with fail
  refine (find_ok HC.out rfl hi).mono ?_
  rintro e w1 ⟨rfl, rfl⟩
  go_wp2_with fail
  refine (find_ok HC.out rfl hj).mono ?_
  rintro e w1 ⟨rfl, rfl⟩
  go_wp2_with fail
  refine HL.out.mono ?_
  rintro e w1 ⟨rfl, k1, rfl⟩
  go_wp2
  go_quiet (fail)
  have HDZ := Lib.hid (show Dn w (w.drewN (k1 + nq)) from ⟨k1 + nq, rfl⟩)
  have HCZ := Lib.hid (HC.out.drewN (k1 + nq))
  try rw [show (w.drewN k1).drewN nq = w.drewN (k1 + nq) by simp [World.drewN, Nat.add_assoc]]
  generalize w.drewN (k1 + nq) = wz at HDZ HCZ ⊢
  clear p0 p1 p2 q0 q1 q2
  obtain ⟨_, _, p2, _, p4, _⟩ := HCZ.out.at_ hi7
  obtain ⟨A, cp, hlv, hcp, hA⟩ := HCZ.out.log hi7
  rw [hlv] at p4
  have HA := Lib.hid hA
  have hL := HCZ.out.l i hi7
  have hBz : B ≤ wz.heap.size := by have := HCZ.out.hB; have := HCZ.out.blk.lt; omega
  clear hlv hA
  go_wp2_with fail
  refine (copy_any HA.out (Ent_one _) hL).mono ?_
  rintro e w2 ⟨v2, rfl, hv2, hb2⟩
  obtain ⟨D2, c2, rfl, _⟩ := own_slice hv2
  have hgr : wz.grownBy w2 (lv j).ownBlock := ⟨hb2.os, hb2.tape, hb2.output, hb2.size, fun k hk _ => hb2.block k hk⟩
  have hvb : (Value.slice D2 (s.nd i).log.length c2).ownBlock = none ∨ (Value.slice D2 (s.nd i).log.length c2).ownBlock = (lv j).ownBlock ∨ ∃ g, (Value.slice D2 (s.nd i).log.length c2).ownBlock = some g ∧ wz.heap.size ≤ g := by
    cases e : (Value.slice D2 (s.nd i).log.length c2).ownBlock with
    | none => exact .inl rfl
    | some g => exact .inr (.inr ⟨g, rfl, (hv2.lt g e).1⟩)
  have HC2 := HCZ.out.keep hb2
  obtain ⟨_, _, r2, _, r4, _⟩ := HC2.at_ hj7
  obtain ⟨_, _, t2, _⟩ := HC2.at_ hi7
  have f4 := (HC2.blk.at_ (k := 1 + j * 5 + 4) (by omega)).2
  have f2 := (HC2.blk.at_ (k := 1 + j * 5 + 2) (by omega)).2
  have HR := Lib.hid (HCZ.out.relog hj hgr (own_base hv2 hBz) hvb hL)
  have HT := Lib.hid (HCZ.out.told hj hgr (own_base hv2 hBz) hvb hL)
  have HP := Lib.hid (HR.out.put (i := j) (k := 2) (u := .int .i64 ((s.nd i).ep : Int)) (d := ⟨(s.nd j).down, (s.nd j).cut, (s.nd i).ep, (s.nd j).led, (s.nd i).log⟩) hj7 (by rw [setN_at]) ⟨(HC.out.e i hi7).1, (HC.out.e j hj7).2⟩
    (gcell_set n _ _ cv hj7 (by omega) (by rw [setN_at]; simp) (by rw [setN_at]; simp) (by simp) (by rw [setN_at]; simp)))
  have HE := Lib.hid (show copied s i j = setN s j ⟨(s.nd j).down, (s.nd j).cut, (s.nd i).ep, (s.nd j).led, (s.nd i).log⟩ from if_neg HIJ.out)
  rw [setN_two, ← HE.out] at HP
  have HD2 := Lib.hid (HT.out.trans (HR.out.did HP.out (only_set (only_refl _ h) _ _)))
  clear hv2 hb2 hgr hvb HC2
  go_wp2_with fail
  refine (update_any HP.out hi).mono ?_
  rintro e w6 ⟨rfl, ⟨cv6, hc6⟩, hg6⟩
  have HD6 := Lib.hid (((HC.out.drawn HDZ.out).trans HD2.out).trans (HP.out.did hc6 hg6))
  clear hc6 hg6
  go_wp2
  go_ret
  exact ⟨rfl, HD6.out⟩
end Rp
end Go.Proofs.Ytdbpbpnbcjbchaa
