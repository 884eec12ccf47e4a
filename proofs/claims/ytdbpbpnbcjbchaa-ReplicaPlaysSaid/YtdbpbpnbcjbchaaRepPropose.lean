/- The walk of Propose: a leader appends. -/
import Derived.Test.YtdbpbpnbcjbchaaRepTell
import Derived.Test.YtdbpbpnbcjbchaaRepLeads
import Derived.Deep.AppendLies
import Derived.Deep.RegionLaw
set_option linter.unusedVariables false
namespace Go.Proofs.Ytdbpbpnbcjbchaa
open Go.RowKit
namespace Rp
theorem Ent_push (l : Log) (e : Nat) (t : ByteArray) : row ((l ++ [(e, t)]).length * 2) (Ent (l ++ [(e, t)])) = row (l.length * 2) (Ent l) ++ [.int .i64 (e : Int), .string t] := by
  rw [List.length_append, List.length_singleton, show (l.length + 1) * 2 = l.length * 2 + 2 by omega, row_two]
  have h1 : ∀ k, k < l.length → (l ++ [(e, t)]).getD k (0, ByteArray.empty) = l.getD k (0, ByteArray.empty) := fun k hk => by
    rw [List.getD_eq_getElem?_getD, List.getD_eq_getElem?_getD, List.getElem?_append_left hk]
  have h2 : (l ++ [(e, t)]).getD l.length (0, ByteArray.empty) = (e, t) := by
    rw [List.getD_eq_getElem?_getD, List.getElem?_append_right (Nat.le_refl _)]
    simp
  congr 1
  · refine row_congr fun j hj => ?_
    unfold Ent ee tt
    rw [h1 (j / 2) (by omega)]
  · rw [(Ent_at _ _).1, (Ent_at _ _).2]
    unfold ee tt
    rw [h2]
theorem Gp.far {B : Nat} {wz w5 : World} {h n : Nat} {s : St} {lv : Nat → Value} {cv : Value} (c : Gp B wz h n s lv cv) {i : Nat} (hi : i < 7) {o : Go.Obj} {r : Option Nat} (hg : (wz.drew.alloc o).grownBy w5 r) (hne : r ≠ some h) :
    w5.cell? ⟨h, 1 + i * 5 + 4, none⟩ = some (lv i) ∧ w5.frozen? ⟨h, 1 + i * 5 + 4, none⟩ = false := by
  have hb : Arr w5 h 55 37 (gcell n s.nd lv cv) := Blk.grown (Blk.alloc (c.drewN 1).blk o) hg (fun e => hne e.symm)
  obtain ⟨_, _, _, _, h4⟩ := gcell_at n s.nd lv cv hi
  have := hb.at_ (k := 1 + i * 5 + 4) (by omega)
  rw [h4] at this
  exact this
/-- Node i has appended. -/
def pushed (s : St) (i : Nat) (t : ByteArray) : St := setN s i { s.nd i with log := (s.nd i).log ++ [((s.nd i).ep, t)] }
theorem grown_pre {w w1 w2 : World} {r : Option Nat} (h1 : Below w.heap.size w w1) (h2 : w1.grownBy w2 r) : w.grownBy w2 r :=
  ⟨h2.os.trans h1.os, h2.tape.trans h1.tape, h2.output.trans h1.output, Nat.le_trans h1.size h2.size, fun k hk hne => (h2.block k (Nat.lt_of_lt_of_le hk h1.size) hne).trans (h1.block k hk)⟩
set_option maxHeartbeats 4000000 in
set_option maxRecDepth 100000 in
theorem propose_ok {B : Nat} {w : World} {h n : Nat} {s : St} {lv : Nat → Value} {cv : Value} (c : Gp B w h n s lv cv) {i : Nat} {t : ByteArray} (hi : i < n) (hl : ldr (s.nd i) = true) (ht : t.size ≤ 20) (hL : (s.nd i).log.length < 1024) :
    Calls Try.prog 12 #[.pointer (some ⟨h, 0, none⟩), .int .i64 (i : Int), .string t] w fun e w' => e = .returned (.tuple #[.int .i64 (((s.nd i).log.length + 1 : Nat) : Int), .int .i64 0]) ∧ Did B w w' h n (upd n (pushed s i t) i) := by
  obtain ⟨i0, hq, hz0, hz1, hz2⟩ := info_parts Try.infoEntry
  have hn7 := c.n7
  have hi7 : i < 7 := by omega
  have HC := Lib.hid c
  have HLD := Lib.hid hl
  clear c hl
  go_enter Try.func12, Try.ntmps12
  go_wp2_with fail
  refine (find_ok HC.out rfl hi).mono ?_
  rintro e w1 ⟨rfl, rfl⟩
  go_wp2_with fail
  refine (leads_any HC.out hi7).mono ?_
  rintro e w1 ⟨rfl, k1, rfl⟩
  rw [HLD.out]
  have HCZ := Lib.hid (HC.out.drewN k1)
  have HDZ := Lib.hid (show Dn w (w.drewN k1) from ⟨k1, rfl⟩)
  generalize w.drewN k1 = wz at HCZ HDZ ⊢
  obtain ⟨_, _, p2, _, p4, _, _⟩ := HCZ.out.at_ hi7
  obtain ⟨A, cp, hlv, hcp, _⟩ := HCZ.out.log hi7
  rw [hlv] at p4
  have HO := Lib.hid (own_keep (HCZ.out.own i hi7) (below_drewN (Below.refl wz.heap.size wz) 1))
  obtain ⟨L, hLL⟩ : ∃ L, L = (s.nd i).log.length := ⟨_, rfl⟩
  rw [← hLL] at p4 hcp hL HO hlv
  have HLV := Lib.hid hlv
  rw [hlv] at HO
  have HLL := Lib.hid hLL
  have hhz := HCZ.out.blk.lt
  have hne := (own_ne HCZ.out).1 i hi7
  rw [hlv] at hne
  have HNE := Lib.hid hne
  have fz : wz.frozen? ⟨h, 1 + i * 5 + 4, none⟩ = false := (HCZ.out.blk.at_ (k := 1 + i * 5 + 4) (by omega)).2
  have ht2 : (t.size : Int) ≤ 32768 := by omega
  have hL2 : (L : Int) < 1024 := by omega
  have hBz : B ≤ wz.heap.size := by have := HCZ.out.hB; omega
  clear hlv hLL hne
  go_wp2
  go_region_law (first
    | (refine step_append_lies _ (by rfl) _ _ _ (by rfl) B 62 i0 _ 2 24 Try.underlying50 hq hz0 hz1 hz2 rfl (by omega) _ L (row (L * 2) (Ent (s.nd i).log)) (by rfl) (HO.out.alloc _)
        ⟨wz.heap.size, 0, none⟩ 1 1 [.int .i64 ((s.nd i).ep : Int), .string t] (by rfl) (by rfl) (fun j u hu => new_cell rfl (by simpa using hu)) (by simp [Value.oneCell'])
        (by omega) (by unfold maxLen; omega) (by omega) (by simp; omega) (wz.heap.size + 1) (by simp) ?_; intro g5 cap5 w5 hown5 hgrow5 hat5 hlt5; obtain ⟨y1, y2⟩ := HCZ.out.far hi7 hgrow5 HNE.out; rw [HLV.out] at y1))
  all_goals
    have hown6 : w5.ownsRow B 62 2 (.slice (some ⟨g5, 0, none⟩) (L + 1) cap5) ((s.nd i).log ++ [((s.nd i).ep, t)]).length (row (((s.nd i).log ++ [((s.nd i).ep, t)]).length * 2) (Ent ((s.nd i).log ++ [((s.nd i).ep, t)]))) := by
      rw [Ent_push, List.length_append, List.length_singleton, ← HLL.out]
      exact hown5
    have hgr : wz.grownBy w5 (lv i).ownBlock := by
      rw [HLV.out]
      first
        | exact grown_pre (w1 := (wz.alloc _).drew) (below_drewN ((Below.refl wz.heap.size wz).alloc (Nat.le_refl _) _) 1) hgrow5
        | exact grown_pre (w1 := wz.drew.alloc _) ((below_drewN (Below.refl wz.heap.size wz) 1).alloc (Nat.le_refl _) _) hgrow5
    have hvb : (Value.slice (some ⟨g5, 0, none⟩) (L + 1) cap5).ownBlock = none ∨ (Value.slice (some ⟨g5, 0, none⟩) (L + 1) cap5).ownBlock = (lv i).ownBlock ∨ ∃ g, (Value.slice (some ⟨g5, 0, none⟩) (L + 1) cap5).ownBlock = some g ∧ wz.heap.size ≤ g := by
      rw [HLV.out]
      rcases hat5 with e | e
      · exact .inr (.inl e.symm)
      · exact .inr (.inr ⟨g5, rfl, by omega⟩)
    have hl7 : ((s.nd i).log ++ [((s.nd i).ep, t)]).length ≤ 1024 := by rw [List.length_append, List.length_singleton, ← HLL.out]; omega
    have HD1 := Lib.hid (HCZ.out.told hi hgr hown6 hvb hl7)
    have HG1 := Lib.hid (HCZ.out.relog hi hgr hown6 hvb hl7)
    have HPU := Lib.hid (show pushed s i t = setN s i { s.nd i with log := (s.nd i).log ++ [((s.nd i).ep, t)] } from rfl)
    rw [← HPU.out] at HD1 HG1
    clear hown5 hgrow5 hat5 hlt5 y1 y2 hown6 hgr hvb hl7
    go_wp2_with fail
    refine (update_any HG1.out hi).mono ?_
    rintro e w6 ⟨rfl, ⟨cv6, hc6⟩, hg6⟩
    have HD6 := Lib.hid (HD1.out.trans (HG1.out.did hc6 hg6))
    obtain ⟨_, _, _, _, q4, _⟩ := hc6.at_ hi7
    have hq4 : setL lv i (.slice (some ⟨g5, 0, none⟩) (L + 1) cap5) i = .slice (some ⟨g5, 0, none⟩) (L + 1) cap5 := if_pos rfl
    rw [hq4] at q4
    have HDF := Lib.hid ((HCZ.out.drawn (Dn.refl _)).trans HD6.out)
    have HDW := Lib.hid ((HC.out.drawn HDZ.out).trans HD6.out)
    clear hc6 hg6 hq4
    go_wp2
    go_ret2
    exact ⟨by rw [← HLL.out]; rfl, HDW.out⟩
end Rp
end Go.Proofs.Ytdbpbpnbcjbchaa
