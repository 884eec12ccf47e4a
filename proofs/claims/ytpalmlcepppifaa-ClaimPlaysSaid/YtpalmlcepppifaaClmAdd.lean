/- The walk of Add of the claims. -/
import Derived.Test.YtpalmlcepppifaaClmNext
import Derived.Deep.AppendLies
import Derived.StillTailTactics
import Derived.WalkSpells
import Derived.Deep.RegionHeld3
import Derived.Deep.RegionLawGrows
set_option linter.unusedVariables false
namespace Go.Proofs.Ytpalmlcepppifaa
open Go.RowKit Go.Maps Go.ChangeShapes

theorem only_below2 {w w1 : World} (h : Below w.heap.size w w1) (r : Option Nat) : w.grownBy w1 r := ⟨h.os, h.tape, h.output, h.size, fun i hi _ => h.block i hi⟩
theorem Try.infoPrize : (Try.prog.info? 80).map (fun i => (i.zero, i.size, i.bytes)) = some (some (.agg #[.int .i64 0, .int .i64 0, .int .i64 0, .int .i64 0]), 4, 32) := by kernel_rfl
theorem Try.infoIntC : (Try.prog.info? 3).map (fun i => (i.zero, i.size, i.bytes)) = some (some (.int .i64 0), 1, 8) := by kernel_rfl

set_option maxHeartbeats 4000000 in
set_option maxRecDepth 100000 in
theorem add_ok {B : Nat} {w : World} {h n : Nat} {N : Nat → ByteArray} {A F E S : Nat → Int} {pv : Value} {b1 b2 : Nat} {D O : DataW Unit} (c : Cl B w h n N A F E S pv b1 b2 D O) (hn : n < 8192) {s : ByteArray} {a f t : Int} (hBw : B ≤ w.heap.size)
    (s0 : 1 ≤ s.size) (s1 : s.size ≤ 24) (a0 : 1 ≤ a) (a1 : a ≤ 1000000000000) (f0 : 0 ≤ f) (f1 : f ≤ t) (t1 : t ≤ 1073741824) :
    Calls Try.prog 19 #[.pointer (some ⟨h, 0, none⟩), .string s, .int .i64 a, .int .i64 f, .int .i64 t] w fun e w' => e = .returned (.int .i64 0) ∧ (∃ pv' D' O', Cl B w' h (n + 1) (upd N n s) (upd A n a) (upd F n f) (upd E n t) (upd S n 0) pv' b1 b2 D' O') ∧ Below B w w' ∧ Kp w w' := by
  obtain ⟨i0, hi, hz0, hz1, hz2⟩ := info_parts Try.infoPrize
  obtain ⟨i1, hj, hy0, hy1, hy2⟩ := info_parts Try.infoIntC
  obtain ⟨pA, pc, rfl, _⟩ := own_slice c.own
  have q0 := c.blk.cell 0
  have q1 := c.blk.cell 1
  have q2 := c.blk.cell 2
  have g0 := c.blk.frozen 0
  simp at q0 q1 q2
  have hlt := c.blk.lt
  have hpvh := c.pvh
  have hbh := c.hB
  have hown : (w.alloc (.cells #[.int .i64 a, .int .i64 f, .int .i64 t, .int .i64 0] 80)).ownsRow B 80 4 (.slice pA n pc) n (row (n * 4) (Four A F E S)) := own_keep c.own ((Below.refl _ _).alloc (Nat.le_refl _) _)
  have HOWN := Lib.hid hown
  have HC := Lib.hid c
  have HPVH := Lib.hid hpvh
  clear hown c hpvh
  have qT : ∀ (w : World) (r : Option Nat), (binOp .eql 74 (.map r) (.map none)).run Try.prog w = .ok (.bool r.isNone) w := fun w r => run_eql_map_nil w _ _ _ r Try.underlying74
  have qO : ∀ (w : World) (r : Option Nat), (binOp .eql 75 (.map r) (.map none)).run Try.prog w = .ok (.bool r.isNone) w := fun w r => run_eql_map_nil w _ _ _ r Try.underlying75
  go_enter Try.func19, Try.ntmps19
  go_wp2_with (at_builtin; refine wpList_append_lies _ rfl _ _ 76 rfl B 80 i0 (.agg #[.int .i64 0, .int .i64 0, .int .i64 0, .int .i64 0]) 4 32 Try.underlying76 hi hz0 hz1 hz2 rfl (by omega) (.slice pA n pc) n (row (n * 4) (Four A F E S)) (by rfl) HOWN.out ⟨w.heap.size, 0, none⟩ 1 1 [.int .i64 a, .int .i64 f, .int .i64 t, .int .i64 0] (by rfl) rfl ?c1 ?c2 (by omega) ?c3 ?c4 ?c5 (w.heap.size + 1) ?c6 ?_)
  case c1 =>
    intro j u hj
    exact new_cell rfl (by simpa using hj)
  case c2 => intro u hu; simp at hu; rcases hu with rfl | rfl | rfl | rfl <;> rfl
  case c3 => unfold maxLen; omega
  case c4 => omega
  case c5 => simp; omega
  case c6 => simp
  intro g cap w3 hown1 hgrow hat hlt3
  have hblk1 : Blk w3 h 78 #[.slice pA n pc, .map (some b1), .map (some b2)] := (HC.out.blk.alloc _).grown hgrow (fun e => HPVH.out e.symm)
  have r0 := hblk1.cell 0
  have r1 := hblk1.cell 1
  have r2 := hblk1.cell 2
  have k0 := hblk1.frozen 0
  simp at r0 r1 r2
  have hpv : ∀ j, (Value.slice pA n pc).ownBlock = some j → ∃ cur, (w.alloc (.cells #[.int .i64 a, .int .i64 f, .int .i64 t, .int .i64 0] 80)).heap[j]? = some (.cells cur 80 (0, 0)) := fun j hj => own_obj HOWN.out hj
  have hwa : Below w.heap.size w (w.alloc (.cells #[.int .i64 a, .int .i64 f, .int .i64 t, .int .i64 0] 80)) := (Below.refl _ _).alloc (Nat.le_refl _) _
  have hgrp0 := grp_keep HC.out.grp (only_below2 hwa none) (fun k hk => by cases hk)
  have hgrp1 := grp_keep hgrp0 hgrow (fun k hk => by
    obtain ⟨cur, hc⟩ := hpv k hk
    obtain ⟨es, ck, hb⟩ := map_block hgrp0
    exact ⟨fun cur' h' => by rw [hc] at h'; injection h' with h'; injection h' with _ h'; revert h'; decide, fun e => ne_obj hb hc cells_map.symm e⟩)
  have hopn0 := HC.out.opn.kept (only_below2 hwa none) (by simp)
  have hopn1 := hopn0.kept hgrow (fun e => by
    obtain ⟨cur, hc⟩ := hpv _ e.symm
    obtain ⟨es, ck, hb⟩ := opn_block hopn0
    exact ne_obj hb hc cells_map.symm rfl)
  have hkp1 : Kp w w3 := (Kp.below hwa).trans (Kp.only hgrow (fun j hj cs t' hb => by
    obtain ⟨cur, hc⟩ := hpv j hj
    rw [hc] at hb; injection hb with hb; injection hb with _ hb; exact .inr (.inl hb.symm)))
  have hbl1 : Below B w w3 := own_below ((Below.refl B w).alloc hBw _) HOWN.out (by simp; omega) hgrow
  have hgh : g ≠ h := by
    rcases hat with e | e
    · intro e2; subst e2; exact HPVH.out e
    · omega
  obtain ⟨W3, hW3⟩ : ∃ W3, W3 = w3.setCell ⟨h, 0, none⟩ (.slice (some ⟨g, 0, none⟩) (n + 1) cap) := ⟨_, rfl⟩
  have hset : w3.grownBy W3 (some h) := by rw [hW3]; exact only_set (only_refl w3 h) 0 _
  have hblk3 : Blk W3 h 78 #[.slice (some ⟨g, 0, none⟩) (n + 1) cap, .map (some b1), .map (some b2)] := by rw [hW3]; exact hblk1.set_ 0 _
  have hown3 : W3.ownsRow B 80 4 (.slice (some ⟨g, 0, none⟩) (n + 1) cap) (n + 1) (row (n * 4) (Four A F E S) ++ [.int .i64 a, .int .i64 f, .int .i64 t, .int .i64 0]) := hown1.kept hset (.inr (by intro e; injection e with e; exact hgh e))
  have hb1obj := map_block hgrp1
  have hgrp3 := grp_keep hgrp1 hset (fun k hk => by
    injection hk with hk; subst hk
    obtain ⟨es, ck, hb⟩ := hb1obj
    exact ⟨fun cur' h' => by unfold Blk at hblk1; rw [hblk1] at h'; injection h' with h'; injection h' with _ h'; revert h'; decide, ne_obj hb hblk1 cells_map.symm⟩)
  have hopn3 := hopn1.kept hset (fun e => by
    injection e with e
    obtain ⟨es, ck, hb⟩ := opn_block hopn1
    exact ne_obj hb hblk1 cells_map.symm e)
  have hkp3 : Kp w W3 := hkp1.trans (Kp.only hset (fun j hj cs t' hb => by
    injection hj with hj; subst hj
    unfold Blk at hblk1; rw [hblk1] at hb; injection hb with hb; injection hb with _ hb; exact .inl hb.symm))
  have hbl3 : Below B w W3 := by rw [hW3]; exact hbl1.setCell (p := ⟨h, 0, none⟩) hbh _
  have hsz3 : w3.heap.size ≤ W3.heap.size := hset.size
  have H3 := Lib.hid (And.intro hblk3 (And.intro hown3 (And.intro hgrp3 (And.intro hopn3 (And.intro hkp3 hbl3)))))
  have HW3 := Lib.hid hW3
  clear hpv hwa hgrp0 hgrp1 hopn0 hopn1 hkp1 hbl1 hset hblk3 hown3 hb1obj hgrp3 hopn3 hkp3 hbl3 hblk1 hown1 hgrow hat q0 q1 q2 g0 hW3
  go_wp2_with fail
  rw [← HW3.out]
  obtain ⟨hblk3, hown3, hgrp3, hopn3, hkp3, hbl3⟩ := H3.out
  -- the world behind the draw, and with the new index in a block of its own
  have hdr : Below W3.heap.size W3 W3.drew := below_drewN (Below.refl _ _) 1
  have hgrpd := grp_keep hgrp3 (only_below2 hdr none) (fun k hk => by cases hk)
  obtain ⟨W4, hW4⟩ : ∃ W4, W4 = (W3.alloc (.cells #[.int .i64 (n : Int)] 3)).drew := ⟨_, rfl⟩
  have h34 : Below W3.heap.size W3 W4 := by rw [hW4]; exact below_drewN ((Below.refl _ _).alloc (Nat.le_refl _) _) 1
  have hgrp4 := grp_keep hgrp3 (only_below2 h34 none) (fun k hk => by cases hk)
  have hn47 : n < maxLen := by unfold maxLen; omega
  obtain ⟨v, zs, hlook, hat, ho, hzl, hback⟩ := look_all hgrp4 hn47 (s := s) (by unfold maxLen; omega)
  rw [HC.out.hD s (by unfold maxLen; omega)] at hat
  have hzs := zs_eq ho hat.symm
  have hb1lt : b1 < W3.heap.size := by obtain ⟨es, ck, hb⟩ := map_block hgrp3; exact (Array.getElem?_eq_some_iff.1 hb).1
  have L0 : (Instr.lookup 74 (.map (some b1)) (.string s) false).run Try.prog W3.drew = .ok v W3.drew := hlook _ (by rw [hW4]; exact (Below.heap_alloc W3 _ b1 hb1lt).symm)
  have L1 : (Instr.lookup 74 (.map (some b1)) (.string s) false).run Try.prog ((W3.alloc (.cells #[.int .i64 (n : Int)] 3)).drew) = .ok v ((W3.alloc (.cells #[.int .i64 (n : Int)] 3)).drew) := by rw [← hW4]; exact hlook _ rfl
  have r1 := hblk3.cell 1
  have r2 := hblk3.cell 2
  simp at r1 r2
  have R1 : ((W3.alloc (.cells #[.int .i64 (n : Int)] 3)).drew).cell? ⟨h, 1, none⟩ = some (.map (some b1)) := by have := (hblk3.keep h34).cell 1; rw [hW4] at this; simpa using this
  have hblk4 : Blk W4 h 78 #[.slice (some ⟨g, 0, none⟩) (n + 1) cap, .map (some b1), .map (some b2)] := hblk3.keep h34
  have h4sz : W4.heap.size = W3.heap.size + 1 := by rw [hW4]; show (W3.alloc _).heap.size = _; simp
  have HS5 := Lib.hid (show ∀ w5 : World, W4.grownBy w5 v.ownBlock → w5.cell? ⟨h, 1, none⟩ = some (.map (some b1)) ∧ (Instr.lookup 74 (.map (some b1)) (.string s) false).run Try.prog w5 = .ok v w5 from fun w5 hg5 => by
    have hb5 := hblk4.grown hg5 (fun e => by
      obtain ⟨cur, hc⟩ := own_obj ho.1 e.symm
      unfold Blk at hblk4; rw [hblk4] at hc; injection hc with hc; injection hc with _ hc; revert hc; decide)
    have q := hb5.cell 1
    simp at q
    refine ⟨q, hlook _ (hg5.block b1 (by omega) (fun e => ?_))⟩
    obtain ⟨cur, hc⟩ := own_obj ho.1 e.symm
    obtain ⟨es, ck, hb⟩ := map_block hgrp4
    exact ne_obj hb hc cells_map.symm rfl)
  have HUP := Lib.hid (show ∀ (g5 cap5 : Nat) (w5 : World), w5.ownsRow (b1 + 1) 3 1 (.slice (some ⟨g5, 0, none⟩) (zs.length + 1) cap5) (zs.length + 1) (zs.map (Value.int .i64) ++ [.int .i64 (n : Int)]) → W4.grownBy w5 v.ownBlock → (v.ownBlock = some g5 ∨ g5 = W3.heap.size + 1) →
      ∃ w6, (Instr.mapUpdate 74 (.map (some b1)) (.string s) (.slice (some ⟨g5, 0, none⟩) (zs.length + 1) cap5)).run Try.prog w5 = .ok () w6 ∧ w6.ownsGroups Try.prog 9 (b1 + 1) 3 .i64 b1 (n + 1) (D.put (.string s.data.toList) (rowDatum .i64 (.slice (some ⟨g5, 0, none⟩) (zs.length + 1) cap5) (zs ++ [(n : Int)]))) ∧ w5.grownBy w6 (some b1) ∧ w6.cell? ⟨h, 1, none⟩ = some (.map (some b1)) from fun g5 cap5 w5 ho5 hg5 ha5 => by
    obtain ⟨w6, u1, u2, u3⟩ := hback w5 _ (zs ++ [(n : Int)]) hg5 (ho.appended ho5 (WalkArith.wf_i64 (by omega))) (by simp; exact hzl) (by
      rcases ha5 with e | e
      · exact .inl e.symm
      · exact .inr ⟨g5, rfl, by omega⟩)
    refine ⟨w6, u1, u2, u3, ?_⟩
    have hb5 := (hblk4.grown hg5 (fun e => by
      obtain ⟨cur, hc⟩ := own_obj ho.1 e.symm
      unfold Blk at hblk4; rw [hblk4] at hc; injection hc with hc; injection hc with _ hc; revert hc; decide))
    have q := (hb5.grown u3 (fun e => by
      injection e with e
      obtain ⟨es, ck, hb⟩ := map_block hgrp4
      exact ne_obj hblk4 hb cells_map e)).cell 1
    simpa using q)
  have HEND := Lib.hid (show ∀ (w5 w6 : World), W4.grownBy w5 v.ownBlock → w5.grownBy w6 (some b1) → Blk w6 h 78 #[.slice (some ⟨g, 0, none⟩) (n + 1) cap, .map (some b1), .map (some b2)] ∧
      w6.ownsRow B 80 4 (.slice (some ⟨g, 0, none⟩) (n + 1) cap) (n + 1) (row (n * 4) (Four A F E S) ++ [.int .i64 a, .int .i64 f, .int .i64 t, .int .i64 0]) ∧
      w6.ownsMap Try.prog 3 (plainElem Try.prog 4) b2 n O ∧ Kp w w6 ∧ Below B w w6 from fun w5 w6 hg5 hg6 => by
    have hown4 := own_keep hown3 h34
    have hopn4 := hopn3.kept (only_below2 h34 none) (by simp)
    have hvo : ∀ k, v.ownBlock = some k → ∃ cur, W4.heap[k]? = some (.cells cur 3 (0, 0)) := fun k hk => own_obj ho.1 hk
    have hblk5 := hblk4.grown hg5 (fun e => by
      obtain ⟨cur, hc⟩ := hvo _ e.symm
      unfold Blk at hblk4; rw [hblk4] at hc; injection hc with hc; injection hc with _ hc; revert hc; decide)
    have hown5 := hown4.kept hg5 (by
      cases hv : v.ownBlock with
      | none => exact .inr (by intro e; cases e)
      | some k =>
        obtain ⟨cur, hc⟩ := hvo k hv
        refine .inr fun e => ?_
        obtain ⟨cur2, hc2⟩ := own_obj hown4 e
        rw [hc] at hc2; injection hc2 with hc2; injection hc2 with _ hc2; revert hc2; decide)
    have hopn5 := hopn4.kept hg5 (fun e => by
      obtain ⟨cur, hc⟩ := hvo _ e.symm
      obtain ⟨es, ck, hb⟩ := opn_block hopn4
      exact ne_obj hb hc cells_map.symm rfl)
    obtain ⟨es, ck, hb⟩ := map_block hgrp4
    have hb5 : w5.heap[b1]? = some (.map es ck) := (hg5.block b1 (by omega) (fun e => by
      obtain ⟨cur, hc⟩ := hvo _ e.symm
      exact ne_obj hb hc cells_map.symm rfl)).trans hb
    have hkp4 : Kp w W4 := hkp3.trans (Kp.below h34)
    refine ⟨hblk5.grown hg6 (fun e => by injection e with e; exact ne_obj hblk5 hb5 cells_map e), hown5.kept hg6 (.inr fun e => by
      obtain ⟨cur, hc⟩ := own_obj hown5 e
      exact ne_obj hb5 hc cells_map.symm rfl), hopn5.kept hg6 (fun e => by injection e with e; exact HC.out.ne e.symm), ?_, ?_⟩
    · refine (hkp4.trans (Kp.only hg5 fun j hj cs t' hb' => ?_)).trans (Kp.only hg6 fun j hj cs t' hb' => ?_)
      · obtain ⟨cur, hc⟩ := hvo j hj
        rw [hc] at hb'; injection hb' with hb'; injection hb' with _ hb'; exact .inr (.inr hb'.symm)
      · injection hj with hj; subst hj
        rw [hb5] at hb'; cases hb'
    · have hB4 : Below B w W4 := hbl3.trans (h34.mono (Nat.le_trans hBw hbl3.size))
      have hB5 : Below B w w5 := hB4.grown hg5 (Nat.le_trans hBw hB4.size) (fun k hk => by have := (ho.1.lt k hk).1; have := HC.out.hB1; omega)
      exact hB5.grown hg6 (Nat.le_trans hBw hB5.size) (fun k hk => by injection hk with hk; have := HC.out.hB1; omega))
  have HHO := Lib.hid ho
  have HBACK := Lib.hid hback
  have HZS := Lib.hid hzs
  have HW4 := Lib.hid hW4
  have HBLK4 := Lib.hid hblk4
  have HGRP4 := Lib.hid hgrp4
  have HZL := Lib.hid hzl
  have hoA : ((W3.alloc (.cells #[.int .i64 (n : Int)] 3)).drew).ownsRow (b1 + 1) 3 1 v zs.length (zs.map (Value.int .i64)) := by rw [← hW4]; exact ho.1
  have HOA := Lib.hid hoA
  have hsz4 : W3.drew.heap.size = W3.heap.size := rfl
  clear H3 HW3 hblk3 hown3 hgrp3 hopn3 hkp3 hbl3 hdr hgrpd hgrp4 hlook hat ho hback hzs hW4 hblk4 hzl hoA h34
  go_region_held3 (fun w' => w'.cell? ⟨h, 1, none⟩ = some (.map (some b1)))
    (first
      | go_keep
      | assumption
      | exact R1)
    ((refine step_append_lies _ (by rfl) _ _ _ (by rfl) (b1 + 1) 3 i1 (.int .i64 0) 1 8 Try.underlying81 hj hy0 hy1 hy2 rfl (by omega) v zs.length (zs.map (Value.int .i64)) (by rfl) HOA.out ⟨W3.heap.size, 0, none⟩ 1 1 [.int .i64 (n : Int)] (by rfl) rfl (fun j u hu => (show (W3.alloc (.cells #[.int .i64 (n : Int)] 3)).cell? _ = _ from new_cell rfl (by simpa using hu))) (fun u hu => by simp at hu; subst hu; rfl) (by omega) (by have := HZL.out; unfold maxLen; omega) (by have := HZL.out; omega) (by simp; omega) (W3.heap.size + 1) (by simp) ?_; intro g5 cap5 w5 hown5 hgrow5 hat5 hlt5; rw [← HW4.out] at hgrow5; obtain ⟨m0, m1⟩ := HS5.out _ hgrow5; obtain ⟨w6, hup, hg6, hgr6, m2⟩ := HUP.out g5 cap5 _ hown5 hgrow5 hat5))
  all_goals
    obtain ⟨hblk6, hown6, hopn6, hkp6, hbl6⟩ := HEND.out _ _ hgrow5 hgr6
    have q2 := hblk6.cell 2
    simp at q2
    obtain ⟨w7, hup7, hopn7, hturn7⟩ := hopn6.store kI Try.underlying75 hn47 (key := .int .i64 (n : Int)) (keyOf_int_mk Try.underlying3 (WalkArith.wf_i64 (by omega))) (plainElem_bool Try.underlying4 true)
    have hne6 : h ≠ b2 := by
      obtain ⟨es, ck, hb⟩ := opn_block hopn6
      exact ne_obj hblk6 hb cells_map
    obtain ⟨es6, ck6, hb6⟩ := opn_block hopn6
    have hgr7 := hturn7.grown
    rw [HZS.out] at hg6
    have hgrp7 := grp_keep hg6 hgr7 (fun k hk => by
      injection hk with hk; subst hk
      exact ⟨(fun cur hc => by rw [hb6] at hc; cases hc), HC.out.ne⟩)
    have hown7 := hown6.kept hgr7 (.inr fun e => by
      obtain ⟨cur, hc⟩ := own_obj hown6 e
      exact ne_obj hb6 hc cells_map.symm rfl)
    have hblk7 := hblk6.grown hgr7 (fun e => by injection e with e; exact hne6 e)
    have HF := Lib.hid (And.intro (HC.out.next hn a0 a1 hblk7 hown7 hgrp7 hopn7) (And.intro (hbl6.grown hgr7 (Nat.le_trans hBw hbl6.size) (fun k hk => by injection hk with hk; have := HC.out.hB2; omega)) (hkp6.trans (Kp.only hgr7 fun j hj cs t' hb' => by
      injection hj with hj; subst hj
      rw [hb6] at hb'; cases hb'))))
    clear hblk6 hown6 hopn6 hkp6 hbl6 hopn7 hturn7 hgr7 hgrp7 hown7 hblk7 hb6 hg6 hgr6 hgrow5 hat5 hown5 hup m0 m1 m2 L0 L1 R1
    go_wp2
    go_ret
    exact ⟨rfl, ⟨_, _, _, HF.out.1⟩, HF.out.2.1, HF.out.2.2⟩
end Go.Proofs.Ytpalmlcepppifaa
