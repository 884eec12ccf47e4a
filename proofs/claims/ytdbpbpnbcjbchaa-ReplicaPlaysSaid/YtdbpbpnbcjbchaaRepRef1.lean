/- The reference's group as an object in memory; its walks that read. -/
import Derived.Test.YtdbpbpnbcjbchaaRepLawE
set_option linter.unusedVariables false
namespace Go.Proofs.Ytdbpbpnbcjbchaa
open Go.RowKit
namespace Rp
/-- The cells of the reference's nodes. -/
def rcell (nd : Nat → Nd) (lv : Nat → Value) : Nat → Value := fun j =>
  if j % 5 = 0 then .bool (nd (j / 5)).down else if j % 5 = 1 then .bool (nd (j / 5)).cut else if j % 5 = 2 then .int .i64 ((nd (j / 5)).ep : Int) else if j % 5 = 3 then .int .i64 ((nd (j / 5)).led : Int) else lv (j / 5)
theorem rcell_at (nd : Nat → Nd) (lv : Nat → Value) (i : Nat) :
    rcell nd lv (i * 5) = .bool (nd i).down ∧ rcell nd lv (i * 5 + 1) = .bool (nd i).cut ∧ rcell nd lv (i * 5 + 2) = .int .i64 ((nd i).ep : Int) ∧ rcell nd lv (i * 5 + 3) = .int .i64 ((nd i).led : Int) ∧ rcell nd lv (i * 5 + 4) = lv i := by
  unfold rcell
  refine ⟨?_, ?_, ?_, ?_, ?_⟩
  · rw [if_pos (by omega), show i * 5 / 5 = i by omega]
  · rw [if_neg (by omega), if_pos (by omega), show (i * 5 + 1) / 5 = i by omega]
  · rw [if_neg (by omega), if_neg (by omega), if_pos (by omega), show (i * 5 + 2) / 5 = i by omega]
  · rw [if_neg (by omega), if_neg (by omega), if_neg (by omega), if_pos (by omega), show (i * 5 + 3) / 5 = i by omega]
  · rw [if_neg (by omega), if_neg (by omega), if_neg (by omega), if_neg (by omega), show (i * 5 + 4) / 5 = i by omega]
/-- The reference's object: the group at h, its nodes at b. -/
structure Rf (B : Nat) (w : World) (h b n : Nat) (s : St) (lv : Nat → Value) (cv : Value) : Prop where
  grp : Blk w h 67 #[.slice (some ⟨b, 0, none⟩) n n, cv]
  nds : Arr w b 71 (n * 5) (rcell s.nd lv)
  own : ∀ i, i < n → w.ownsRow B 73 2 (lv i) (s.nd i).log.length (row ((s.nd i).log.length * 2) (Ent (s.nd i).log))
  cow : w.ownsRow B 9 1 cv s.done.length (row (s.done.length * 1) (Str s.done))
  hB : B ≤ h
  bB : B ≤ b
  n1 : 1 ≤ n
  n7 : n ≤ 7
  l : ∀ i, i < n → (s.nd i).log.length ≤ 1024
  e : ∀ i, i < n → (s.nd i).ep ≤ 1000000 ∧ (s.nd i).led ≤ 1000000
section
variable {B : Nat} {w : World} {h b n : Nat} {s : St} {lv : Nat → Value} {cv : Value}
theorem Rf.at_ (c : Rf B w h b n s lv cv) {i : Nat} (hi : i < n) :
    w.cell? ⟨b, i * 5, none⟩ = some (.bool (s.nd i).down) ∧ w.cell? ⟨b, i * 5 + 1, none⟩ = some (.bool (s.nd i).cut) ∧ w.cell? ⟨b, i * 5 + 2, none⟩ = some (.int .i64 ((s.nd i).ep : Int)) ∧ w.cell? ⟨b, i * 5 + 3, none⟩ = some (.int .i64 ((s.nd i).led : Int)) ∧ w.cell? ⟨b, i * 5 + 4, none⟩ = some (lv i) := by
  obtain ⟨h0, h1, h2, h3, h4⟩ := rcell_at s.nd lv i
  exact ⟨(c.nds.at_ (k := i * 5) (by omega)).1.trans (by rw [h0]), (c.nds.at_ (k := i * 5 + 1) (by omega)).1.trans (by rw [h1]), (c.nds.at_ (k := i * 5 + 2) (by omega)).1.trans (by rw [h2]), (c.nds.at_ (k := i * 5 + 3) (by omega)).1.trans (by rw [h3]), (c.nds.at_ (k := i * 5 + 4) (by omega)).1.trans (by rw [h4])⟩
theorem Rf.g0 (c : Rf B w h b n s lv cv) : w.cell? ⟨h, 0, none⟩ = some (.slice (some ⟨b, 0, none⟩) n n) ∧ w.cell? ⟨h, 1, none⟩ = some cv := ⟨c.grp.cell 0, c.grp.cell 1⟩
theorem Rf.keep {w1 : World} (c : Rf B w h b n s lv cv) (hb : Below w.heap.size w w1) : Rf B w1 h b n s lv cv :=
  ⟨c.grp.keep hb, Blk.keep c.nds hb, fun i hi => own_keep (c.own i hi) hb, own_keep c.cow hb, c.hB, c.bB, c.n1, c.n7, c.l, c.e⟩
theorem Rf.drewN (c : Rf B w h b n s lv cv) (k : Nat) : Rf B (w.drewN k) h b n s lv cv := c.keep (below_drewN (Below.refl _ _) k)
theorem Rf.log (c : Rf B w h b n s lv cv) {i : Nat} (hi : i < n) :
    ∃ A c, lv i = .slice A (s.nd i).log.length c ∧ (s.nd i).log.length ≤ c ∧ Cells w A ((s.nd i).log.length * 2) (Ent (s.nd i).log) := by
  have ho := c.own i hi
  obtain ⟨A, k, e, hk⟩ := own_slice ho
  rw [e] at ho
  exact ⟨A, k, e, hk, Cells.of_own ho⟩
set_option maxHeartbeats 1000000 in
theorem rhas_yes (c : Rf B w h b n s lv cv) {i : Nat} (hi : i < n) :
    Calls Try.prog 43 #[.pointer (some ⟨h, 0, none⟩), .int .i64 (i : Int)] w fun e w' => e = .returned (.bool true) ∧ w = w' := by
  obtain ⟨g0, _⟩ := c.g0
  have hn7 := c.n7
  clear c
  go_enter Try.func43, Try.ntmps43
  go_wp2
  go_ret
  exact ⟨by simp <;> omega, rfl⟩
set_option maxHeartbeats 1000000 in
theorem rhas_no (c : Rf B w h b n s lv cv) {x : Int} (hx : x < 0 ∨ (n : Int) ≤ x) :
    Calls Try.prog 43 #[.pointer (some ⟨h, 0, none⟩), .int .i64 x] w fun e w' => e = .returned (.bool false) ∧ w = w' := by
  obtain ⟨g0, _⟩ := c.g0
  have hn7 := c.n7
  clear c
  rcases hx with hx | hx
  all_goals
    go_enter Try.func43, Try.ntmps43
    go_wp2
    go_ret
    exact ⟨by simp <;> omega, rfl⟩
end
/-- A node by value. -/
def nval (d : Nd) (v : Value) : Value := .agg #[.bool d.down, .bool d.cut, .int .i64 (d.ep : Int), .int .i64 (d.led : Int), v]
set_option maxHeartbeats 1000000 in
theorem rreach_any (w : World) (d : Nd) (v : Value) :
    Calls Try.prog 46 #[.agg #[.bool d.down, .bool d.cut, .int .i64 (d.ep : Int), .int .i64 (d.led : Int), v]] w fun e w' => e = .returned (.bool (up d)) ∧ Below w.heap.size w w' := by
  have HB := Lib.hid ((Below.refl w.heap.size w).alloc (Nat.le_refl _) (.cells #[.bool d.down, .bool d.cut, .int .i64 (d.ep : Int), .int .i64 (d.led : Int), v] 71))
  unfold up
  go_enter Try.func46, Try.ntmps46
  cases hd : d.down <;> cases hc : d.cut <;> rw [hd, hc] at HB
  all_goals
    go_wp2
    go_ret
    exact ⟨rfl, HB.out⟩
end Rp
end Go.Proofs.Ytdbpbpnbcjbchaa
