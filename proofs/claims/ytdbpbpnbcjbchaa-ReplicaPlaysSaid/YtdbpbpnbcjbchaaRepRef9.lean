/- The reference's Copy. -/
import Derived.Test.YtdbpbpnbcjbchaaRepRef8
import Derived.Deep.RegionHeld3
set_option linter.unusedVariables false
namespace Go.Proofs.Ytdbpbpnbcjbchaa
open Go.RowKit
namespace Rp
theorem blk_at {w : World} {g : Nat} {t : TypeId} {cs : Array Value} (h : g = w.heap.size) : Blk (w.alloc (.cells cs t)) g t cs := by
  subst h; exact Blk.new w t cs
theorem bl_se {B : Nat} {w w' : World} (h : Below B w w') {b : Nat} (hb : B ≤ b) (i : Nat) (u : Value) : Below B w (w'.setCell ⟨b, i, none⟩ u) := h.setCell (p := ⟨b, i, none⟩) hb u
section
variable {B : Nat} {w : World} {h b n : Nat} {s : St} {lv : Nat → Value} {cv : Value}
/-- The cells of two nodes, whatever was made since. -/
theorem Rf.two (c : Rf B w h b n s lv cv) {i j : Nat} (hi : i < n) (hj : j < n) {va vb : Value} (ha : lv i = va) (hb : lv j = vb) {w' : World} (hw : Below w.heap.size w w') :
    w'.cell? ⟨h, 0, none⟩ = some (.slice (some ⟨b, 0, none⟩) n n) ∧
    w'.cell? ⟨b, i * 5, none⟩ = some (.bool (s.nd i).down) ∧ w'.cell? ⟨b, i * 5 + 1, none⟩ = some (.bool (s.nd i).cut) ∧ w'.cell? ⟨b, i * 5 + 2, none⟩ = some (.int .i64 ((s.nd i).ep : Int)) ∧ w'.cell? ⟨b, i * 5 + 3, none⟩ = some (.int .i64 ((s.nd i).led : Int)) ∧ w'.cell? ⟨b, i * 5 + 4, none⟩ = some va ∧
    w'.cell? ⟨b, j * 5, none⟩ = some (.bool (s.nd j).down) ∧ w'.cell? ⟨b, j * 5 + 1, none⟩ = some (.bool (s.nd j).cut) ∧ w'.cell? ⟨b, j * 5 + 2, none⟩ = some (.int .i64 ((s.nd j).ep : Int)) ∧ w'.cell? ⟨b, j * 5 + 3, none⟩ = some (.int .i64 ((s.nd j).led : Int)) ∧ w'.cell? ⟨b, j * 5 + 4, none⟩ = some vb := by
  have c' := c.keep hw
  obtain ⟨p0, p1, p2, p3, p4⟩ := c'.at_ hi
  obtain ⟨q0, q1, q2, q3, q4⟩ := c'.at_ hj
  rw [ha] at p4
  rw [hb] at q4
  exact ⟨c'.g0.1, p0, p1, p2, p3, p4, q0, q1, q2, q3, q4⟩
set_option maxHeartbeats 1000000 in
theorem rcopy_bad1 (c : Rf B w h b n s lv cv) {x y : Int} (hx : x < 0 ∨ (n : Int) ≤ x) :
    Calls Try.prog 38 #[.pointer (some ⟨h, 0, none⟩), .int .i64 x, .int .i64 y] w fun e w' => e = .returned (.int .i64 2) ∧ w = w' := by
  have HC := Lib.hid c
  clear c
  go_enter Try.func38, Try.ntmps38
  go_wp2_with fail
  refine (rhas_no HC.out hx).mono ?_
  rintro e w1 ⟨rfl, rfl⟩
  go_wp2
  go_ret
  exact ⟨rfl, rfl⟩
set_option maxHeartbeats 1000000 in
theorem rcopy_bad2 (c : Rf B w h b n s lv cv) {i : Nat} {y : Int} (hi : i < n) (hx : y < 0 ∨ (n : Int) ≤ y) :
    Calls Try.prog 38 #[.pointer (some ⟨h, 0, none⟩), .int .i64 (i : Int), .int .i64 y] w fun e w' => e = .returned (.int .i64 2) ∧ w = w' := by
  have HC := Lib.hid c
  clear c
  go_enter Try.func38, Try.ntmps38
  go_wp2_with fail
  refine (rhas_yes HC.out hi).mono ?_
  rintro e w1 ⟨rfl, rfl⟩
  go_wp2_with fail
  refine (rhas_no HC.out hx).mono ?_
  rintro e w1 ⟨rfl, rfl⟩
  go_wp2
  go_ret
  exact ⟨rfl, rfl⟩
theorem setN_self (s : St) (i : Nat) : setN s i (s.nd i) = s := by
  unfold setN
  cases s with
  | mk nd d =>
    simp only [St.mk.injEq, and_true]
    funext k
    by_cases e : k = i
    · subst e; rw [if_pos rfl]
    · rw [if_neg e]
theorem copied_as (s : St) (i j : Nat) : setN (setN s j { s.nd j with log := (s.nd i).log }) j { (setN s j { s.nd j with log := (s.nd i).log }).nd j with ep := (s.nd i).ep } = copied s i j := by
  rw [setN_two, setN_at]
  unfold copied
  by_cases e : i = j
  · subst e; rw [if_pos rfl]; exact setN_self s i
  · rw [if_neg e]
/-- Behind the log's copy. -/
def Pc (B : Nat) (w : World) (h b n : Nat) (s : St) (q : Nat) (ep : Nat) (wx : World) : Prop :=
  (∃ lv' cv', Rf B wx h b n s lv' cv') ∧ RDid B w wx h b n s ∧ wx.cell? ⟨q, 2, none⟩ = some (.int .i64 (ep : Int)) ∧ q < wx.heap.size
theorem Pc.of {w2 w6 : World} {D6 : Option Addr} {L c6 i j q : Nat} {cs : Array Value} {ep : Nat} (c : Rf B w h b n s lv cv) (hi : i < n) (hj : j < n) (hb2 : Below w.heap.size w w2)
    (hq : Blk w2 q 71 cs) (hqb : q ≠ b) (l4 : w2.cell? ⟨q, 2, none⟩ = some (.int .i64 (ep : Int))) (hL : L = (s.nd i).log.length) (hb6 : Below w2.heap.size w2 w6)
    (hown6 : w6.ownsRow w2.heap.size 73 2 (.slice D6 L c6) L (row (L * 2) (Ent (s.nd i).log))) :
    Hid (Pc B w h b n (setN s j { s.nd j with log := (s.nd i).log }) q ep (w6.setCell ⟨b, j * 5 + 4, none⟩ (.slice D6 L c6))) := by
  have c2 := c.keep hb2
  have hhw := c.grp.lt
  have hbw := c.nds.lt
  have ho6 : w6.ownsRow w2.heap.size 73 2 (.slice D6 L c6) (s.nd i).log.length (row ((s.nd i).log.length * 2) (Ent (s.nd i).log)) := by
    rw [← hL]
    exact hown6
  have hBz : B ≤ w2.heap.size := by have := c2.hB; have := c2.grp.lt; omega
  have hR := c2.relog hj hb6 (own_base ho6 hBz) (c.l i hi)
  have hD := (c2.kept hb6).trans ((c2.keep hb6).node hR)
  have l6 := (hb6.cell (p := ⟨q, 2, none⟩) hq.lt).trans l4
  have l6s := (World.cell?_setCell_other w6 ⟨b, j * 5 + 4, none⟩ ⟨q, 2, none⟩ (.slice D6 L c6) (by simp <;> omega)).trans l6
  exact Lib.hid ⟨⟨_, _, hR⟩, (c.kept hb2).trans hD, l6s, by rw [World.size_setCell]; exact Nat.lt_of_lt_of_le hq.lt hb6.size⟩
set_option maxHeartbeats 4000000 in
set_option maxRecDepth 100000 in
theorem rcopy_two (c : Rf B w h b n s lv cv) {i j : Nat} (hi : i < n) (hj : j < n) :
    Calls Try.prog 38 #[.pointer (some ⟨h, 0, none⟩), .int .i64 (i : Int), .int .i64 (j : Int)] w fun e w' => e = .returned (.int .i64 (cpe s i j : Int)) ∧ RDid B w w' h b n (if cpe s i j = 0 then upd n (copied s i j) i else s) := by
  obtain ⟨i0, hq, hz0, hz1, hz2⟩ := info_parts Try.infoEntR
  have hn7 := c.n7
  obtain ⟨A, cp, hlv, hcp, _⟩ := c.log hi
  obtain ⟨A', cp', hlv', _, _⟩ := c.log hj
  have hhw := c.grp.lt
  have hbw := c.nds.lt
  have hL := c.l i hi
  have HC := Lib.hid c
  obtain ⟨L, hLL⟩ : ∃ L, L = (s.nd i).log.length := ⟨_, rfl⟩
  obtain ⟨L', hLL'⟩ : ∃ L, L = (s.nd j).log.length := ⟨_, rfl⟩
  rw [← hLL] at hlv hcp hL
  rw [← hLL'] at hlv'
  have HLA := Lib.hid hlv
  have HLB := Lib.hid hlv'
  have HLL := Lib.hid hLL
  obtain ⟨y, hy⟩ : ∃ y, y = cpe s i j := ⟨_, rfl⟩
  obtain ⟨sf, hsf⟩ : ∃ sf, sf = (if cpe s i j = 0 then upd n (copied s i j) i else s) := ⟨_, rfl⟩
  rw [← hsf, ← hy]
  have HYY := Lib.hid hy
  have HSS := Lib.hid hsf
  clear hy hsf
  clear c hlv hlv' hLL hLL'
  go_enter Try.func38, Try.ntmps38
  go_wp2_with fail
  refine (rhas_yes HC.out hi).mono ?_
  rintro e w1 ⟨rfl, rfl⟩
  go_wp2_with fail
  refine (rhas_yes HC.out hj).mono ?_
  rintro e w1 ⟨rfl, rfl⟩
  go_upto_region 3 with (fail)
  go_cut [7, 8] (fun s7 s8 wx => ∃ qa qb : Nat, s7 = .pointer (some ⟨qa, 0, none⟩) ∧ s8 = .pointer (some ⟨qb, 0, none⟩) ∧ w.heap.size ≤ qa ∧
    Hid (Blk wx qa 71 #[.bool (s.nd i).down, .bool (s.nd i).cut, .int .i64 ((s.nd i).ep : Int), .int .i64 ((s.nd i).led : Int), .slice A L cp]) ∧
    Hid (Blk wx qb 71 #[.bool (s.nd j).down, .bool (s.nd j).cut, .int .i64 ((s.nd j).ep : Int), .int .i64 ((s.nd j).led : Int), .slice A' L' cp']) ∧ Hid (Below w.heap.size w wx))
  case first =>
    go_region_held3 (fun w' => w'.cell? ⟨h, 0, none⟩ = some (.slice (some ⟨b, 0, none⟩) n n) ∧
      w'.cell? ⟨b, i * 5, none⟩ = some (.bool (s.nd i).down) ∧ w'.cell? ⟨b, i * 5 + 1, none⟩ = some (.bool (s.nd i).cut) ∧ w'.cell? ⟨b, i * 5 + 2, none⟩ = some (.int .i64 ((s.nd i).ep : Int)) ∧ w'.cell? ⟨b, i * 5 + 3, none⟩ = some (.int .i64 ((s.nd i).led : Int)) ∧ w'.cell? ⟨b, i * 5 + 4, none⟩ = some (.slice A L cp) ∧
      w'.cell? ⟨b, j * 5, none⟩ = some (.bool (s.nd j).down) ∧ w'.cell? ⟨b, j * 5 + 1, none⟩ = some (.bool (s.nd j).cut) ∧ w'.cell? ⟨b, j * 5 + 2, none⟩ = some (.int .i64 ((s.nd j).ep : Int)) ∧ w'.cell? ⟨b, j * 5 + 3, none⟩ = some (.int .i64 ((s.nd j).led : Int)) ∧ w'.cell? ⟨b, j * 5 + 4, none⟩ = some (.slice A' L' cp'))
      ((refine Rf.two HC.out hi hj HLA.out HLB.out ?_; repeat' (first | exact Below.refl _ _ | refine bl_al ?_ (Nat.le_refl _) _ | refine bl_se ?_ (by first | omega | (simp; done) | (simp; omega)) _ _ | refine Below.drew ?_))) (fail)
    all_goals
      go_wp2_with fail
      go_meet
      case rel =>
        refine ⟨_, _, rfl, rfl, by first | omega | (simp; done) | (simp; omega), Lib.hid ?_, Lib.hid ?_, Lib.hid ?_⟩
        · repeat' (first | exact blk_at (by first | rfl | (simp; done) | (simp; omega)) | refine Blk.alloc ?_ _)
        · repeat' (first | exact blk_at (by first | rfl | (simp; done) | (simp; omega)) | refine Blk.alloc ?_ _)
        · repeat' (first | exact Below.refl _ _ | refine bl_al ?_ (Nat.le_refl _) _ | refine Below.drew ?_)
  case rest =>
    obtain ⟨qa, qb, rfl, rfl, hqa, KA, KB, BB⟩ := hcut
    have A0 : wc.cell? ⟨qa, 0, none⟩ = some (.bool (s.nd i).down) := KA.out.cell 0
    have A1 : wc.cell? ⟨qa, 1, none⟩ = some (.bool (s.nd i).cut) := KA.out.cell 1
    have A2 : wc.cell? ⟨qa, 2, none⟩ = some (.int .i64 ((s.nd i).ep : Int)) := KA.out.cell 2
    have A3 : wc.cell? ⟨qa, 3, none⟩ = some (.int .i64 ((s.nd i).led : Int)) := KA.out.cell 3
    have A4 : wc.cell? ⟨qa, 4, none⟩ = some (.slice A L cp) := KA.out.cell 4
    have B0 : wc.cell? ⟨qb, 0, none⟩ = some (.bool (s.nd j).down) := KB.out.cell 0
    have HF := Lib.hid (HC.out.kept BB.out)
    cases a0 : (s.nd i).down with
    | true =>
      have HY : Hid (cpe s i j = 8) := by unfold cpe; exact if_pos (.inl a0)
      rw [a0] at A0
      clear a0
      go_wp2
      go_ret
      exact ⟨by rw [HYY.out, HY.out]; rfl, by rw [HSS.out, if_neg (by rw [HY.out]; decide)]; exact HF.out⟩
    | false =>
      rw [a0] at A0
      cases b0 : (s.nd j).down with
      | true =>
        have HY : Hid (cpe s i j = 8) := by unfold cpe; exact if_pos (.inr (.inl b0))
        rw [b0] at B0
        clear b0 a0
        go_wp2
        go_ret
        exact ⟨by rw [HYY.out, HY.out]; rfl, by rw [HSS.out, if_neg (by rw [HY.out]; decide)]; exact HF.out⟩
      | false =>
        rw [b0] at B0
        have hcl := fun (w' : World) => rleads_any w' (s.nd i) (.slice A L cp)
        rw [a0] at hcl
        have HCL := Lib.hid hcl
        have HA0 := Lib.hid a0
        have HB0 := Lib.hid b0
        clear a0 b0 hcl
        go_wp2_with fail
        refine (HCL.out _).mono ?_
        rintro e w2 ⟨rfl, hb2⟩
        clear A0 A1 A2 A3 A4 B0
        have KA2 := Lib.hid (KA.out.keep hb2)
        have KB2 := Lib.hid (KB.out.keep hb2)
        have BB2 := Lib.hid (Below.on BB.out hb2)
        have HF2 := Lib.hid (HC.out.kept BB2.out)
        clear hb2 KA KB BB HF
        have A1 : w2.cell? ⟨qa, 1, none⟩ = some (.bool (s.nd i).cut) := KA2.out.cell 1
        have A2 : w2.cell? ⟨qa, 2, none⟩ = some (.int .i64 ((s.nd i).ep : Int)) := KA2.out.cell 2
        have A4 : w2.cell? ⟨qa, 4, none⟩ = some (.slice A L cp) := KA2.out.cell 4
        have B1 : w2.cell? ⟨qb, 1, none⟩ = some (.bool (s.nd j).cut) := KB2.out.cell 1
        have B2 : w2.cell? ⟨qb, 2, none⟩ = some (.int .i64 ((s.nd j).ep : Int)) := KB2.out.cell 2
        cases hl : ldr (s.nd i) with
        | false =>
          have HY : Hid (cpe s i j = 8) := by unfold cpe; exact if_pos (.inr (.inr hl))
          clear hl
          go_wp2
          go_ret
          exact ⟨by rw [HYY.out, HY.out]; rfl, by rw [HSS.out, if_neg (by rw [HY.out]; decide)]; exact HF2.out⟩
        | true =>
          have H1 : Hid (¬ ((s.nd i).down = true ∨ (s.nd j).down = true ∨ ldr (s.nd i) = false)) := by
            rw [HA0.out, HB0.out, hl]
            exact Lib.hid (by simp)
          clear hl
          cases a1 : (s.nd i).cut with
          | true =>
            have HY : Hid (cpe s i j = 25) := by unfold cpe; rw [if_neg H1.out]; exact if_pos (.inl a1)
            rw [a1] at A1
            clear a1
            go_wp2
            go_ret
            exact ⟨by rw [HYY.out, HY.out]; rfl, by rw [HSS.out, if_neg (by rw [HY.out]; decide)]; exact HF2.out⟩
          | false =>
            rw [a1] at A1
            cases b1 : (s.nd j).cut with
            | true =>
              have HY : Hid (cpe s i j = 25) := by unfold cpe; rw [if_neg H1.out]; exact if_pos (.inr b1)
              rw [b1] at B1
              clear b1 a1
              go_wp2
              go_ret
              exact ⟨by rw [HYY.out, HY.out]; rfl, by rw [HSS.out, if_neg (by rw [HY.out]; decide)]; exact HF2.out⟩
            | false =>
              rw [b1] at B1
              have H2 : Hid (¬ ((s.nd i).cut = true ∨ (s.nd j).cut = true)) := by
                rw [a1, b1]
                exact Lib.hid (by simp)
              clear a1 b1
              by_cases he : (s.nd i).ep < (s.nd j).ep
              · have HY : Hid (cpe s i j = 26) := by unfold cpe; rw [if_neg H1.out, if_neg H2.out]; exact if_pos he
                have he2 : ((s.nd i).ep : Int) < ((s.nd j).ep : Int) := by omega
                clear he
                go_wp2
                go_ret
                exact ⟨by rw [HYY.out, HY.out]; rfl, by rw [HSS.out, if_neg (by rw [HY.out]; decide)]; exact HF2.out⟩
              · have HY : Hid (cpe s i j = 0) := by unfold cpe; rw [if_neg H1.out, if_neg H2.out]; exact if_neg he
                have he2 : (((s.nd i).ep : Int) < ((s.nd j).ep : Int)) = False := eq_false (by omega)
                clear he H1 H2
                have k0 := (HC.out.keep BB2.out).g0.1
                have hh2 := (HC.out.keep BB2.out).grp.lt
                have hbw2 := (HC.out.keep BB2.out).nds.lt
                have e4 := ((HC.out.keep BB2.out).at_ hj).2.2.2.2
                have f4 := ((HC.out.keep BB2.out).nds.at_ (k := j * 5 + 4) (by omega)).2
                have hqw := KA2.out.lt
                have HA := Lib.hid (show Cells w2 A (L * 2) (Ent (s.nd i).log) by
                  obtain ⟨A9, c9, e9, _, h9⟩ := (HC.out.keep BB2.out).log hi
                  rw [HLA.out] at e9
                  injection e9 with e9 _ _
                  subst e9
                  rw [HLL.out]
                  exact h9)
                have HM : Hid (((w2.drewN 1).alloc (.cells #[] 73)).ownsRow w2.heap.size 73 2 (.slice (some ⟨w2.heap.size, 0, none⟩) 0 0) 0 []) :=
                  World.ownsRow_made (e := 73) (size := 2) (base := w2.heap.size) (w2.drewN 1) #[] 0 (Nat.le_refl _) (by unfold maxLen; omega) (by rfl)
                have HBA : Hid (Below w2.heap.size w2 ((w2.drewN 1).alloc (.cells #[] 73))) := (below_drewN (Below.refl w2.heap.size w2) 1).alloc (Nat.le_refl _) _
                have HA3 := Lib.hid (HA.out.below HBA.out)
                have HEN := Lib.hid (Ent_one (s.nd i).log)
                have hhb : h ≠ b := blk_ne (HC.out.keep BB2.out).grp (HC.out.keep BB2.out).nds (by decide)
                have HALL : Hid (∀ w', Fx w2 w' b (j * 5 + 4) → w'.cell? ⟨h, 0, none⟩ = some (.slice (some ⟨b, 0, none⟩) n n) ∧ w'.cell? ⟨qa, 4, none⟩ = some (.slice A L cp) ∧ Fx w2 w' b (j * 5 + 4)) := fun w' hw => ⟨hw.cell (p := ⟨h, 0, none⟩) hh2 hhb k0, hw.cell (p := ⟨qa, 4, none⟩) hqw (by simp; omega) A4, hw⟩
                go_upto_region 10 with (fail)
                clear B1 B2 A1
                go_cut [1] (fun s1 wx => s1 = .int .i64 (i : Int) ∧ Hid (Pc B w h b n (setN s j { s.nd j with log := (s.nd i).log }) qa (s.nd i).ep wx))
                case first =>
                  go_region_held3 (fun w' => w'.cell? ⟨h, 0, none⟩ = some (.slice (some ⟨b, 0, none⟩) n n) ∧ w'.cell? ⟨qa, 4, none⟩ = some (.slice A L cp) ∧ Fx w2 w' b (j * 5 + 4))
                    ((refine HALL.out _ ?_; (first | refine Fx.set ?_ _ | refine Fx.of ?_); repeat' (first | exact (by assumption) | exact Below.refl _ _ | refine bl_al ?_ (Nat.le_refl _) _ | refine Below.drew ?_)))
                    (first
                      | (refine step_append_new (by rfl) _ _ _ (by rfl) w2.heap.size 73 i0 _ 2 24 Try.underlying69 hq hz0 hz1 hz2 rfl (by omega) _ (by rfl) HM.out A L cp (Ent (s.nd i).log) (by rfl) HA3.out HEN.out (by unfold maxLen; omega) (by omega) HBA.out.size ?_; intro D5 c5 w5 hown5 hgrow5; have hb5 : Below w2.heap.size w2 w5 := own_below HBA.out HM.out HBA.out.size hgrow5; have y1 := (hb5.cell (p := ⟨b, j * 5 + 4, none⟩) hbw2).trans e4; have y2 := (hb5.frozen (p := ⟨b, j * 5 + 4, none⟩) hbw2).trans f4)
                      | fail)
                  all_goals
                    have HP := Pc.of HC.out hi hj BB2.out KA2.out (by omega) A2 HLL.out hb5 hown5
                    clear hown5 hgrow5
                    go_wp2_with fail
                    go_meet
                    case rel => exact ⟨rfl, HP⟩
                case rest =>
                  obtain ⟨rfl, HP⟩ := hcut
                  obtain ⟨⟨lv', cv', hR⟩, hDD, l6, zq⟩ := HP.out
                  have k2 := hR.g0.1
                  obtain ⟨_, _, y1, _⟩ := hR.at_ hj
                  have y2 := (hR.nds.at_ (k := j * 5 + 2) (by omega)).2
                  have hR2 := hR.put (i := j) (k := 2) (u := .int .i64 ((s.nd i).ep : Int)) (d := { (setN s j { s.nd j with log := (s.nd i).log }).nd j with ep := (s.nd i).ep }) hj rfl (by rw [setN_at]; exact ⟨(HC.out.e i hi).1, (HC.out.e j hj).2⟩) (rcell_set _ _ (by omega) (by rw [setN_at]; simp) (by rw [setN_at]; simp) (by simp) (by rw [setN_at]; simp))
                  have hD2 := hDD.trans (hR.node hR2)
                  rw [copied_as] at hR2 hD2
                  have HR := Lib.hid (hR2.keep (Below.refl _ _).drew)
                  have HDD := Lib.hid (hD2.trans (hR2.kept (Below.refl _ _).drew))
                  clear hDD HP hR hR2 hD2 k0 e4 f4 HM HBA HA3 HEN A2 A4 HA HALL
                  go_wp2
                  go_region_law (fail)
                  all_goals
                    go_wp2_with fail
                    refine (rupdate_any HR.out hi).mono ?_
                    rintro e7 w7 ⟨rfl, hd7, _⟩
                    have HF := Lib.hid (HDD.out.trans hd7)
                    clear hd7
                    go_wp2
                    go_ret
                    exact ⟨by rw [HYY.out, HY.out]; rfl, by rw [HSS.out, if_pos HY.out]; exact HF.out⟩
end
end Rp
end Go.Proofs.Ytdbpbpnbcjbchaa
