/- The reference's update. -/
import Derived.Test.YtdbpbpnbcjbchaaRepRef4
set_option linter.unusedVariables false
namespace Go.Proofs.Ytdbpbpnbcjbchaa
open Go.RowKit
namespace Rp
theorem com_comm : ∀ a b : Log, com a b = com b a
  | [], [] => rfl
  | [], y :: b => rfl
  | x :: a, [] => rfl
  | x :: a, y :: b => by
    simp only [com]
    rw [com_comm a b]
    by_cases h : x = y
    · rw [if_pos h, if_pos h.symm]
    · rw [if_neg h, if_neg (fun e => h e.symm)]
/-- The votes for m entries. -/
def Vt (n : Nat) (s : St) (i m : Nat) : Nat → Bool := fun k => decide (m ≤ sm n s i k)
theorem Vt_in {n : Nat} {s : St} {i m k : Nat} (hk : k < n) (he : (s.nd k).ep = (s.nd i).ep) : Vt n s i m k = decide (m ≤ com (s.nd k).log (s.nd i).log) := by
  unfold Vt sm
  rw [if_pos ⟨hk, he⟩, com_comm]
theorem Vt_out {n : Nat} {s : St} {i m k : Nat} (hm : 0 < m) (he : ¬ (s.nd k).ep = (s.nd i).ep) : Vt n s i m k = false := by
  unfold Vt sm
  rw [if_neg (fun x => he x.2)]
  exact decide_eq_false (by omega)
theorem Vt_all {n : Nat} {s : St} {i m : Nat} (hm : 0 < m) (hn : n ≤ 7) : cnt (fun k => decide (m ≤ sm n s i k)) 7 = cnt (Vt n s i m) n :=
  cnt_beyond (V := Vt n s i m) (fun k hk => by unfold Vt sm; rw [if_neg (fun x => by omega)]; exact decide_eq_false (by omega)) 7 hn
theorem cnt_step (V : Nat → Bool) (k : Nat) (c : Nat) (h : c = cnt V k) : (V k = true → c + 1 = cnt V (k + 1)) ∧ (V k = false → c = cnt V (k + 1)) := by
  subst h
  exact ⟨fun h => (cnt_up V h).symm, fun h => (cnt_no V h).symm⟩
section
variable {B : Nat} {w : World} {h b n : Nat} {s : St} {lv : Nat → Value} {cv : Value}
theorem Rf.did_h {w' : World} {s' : St} {lv' : Nat → Value} {cv' : Value} (c : Rf B w h b n s lv cv) (c' : Rf B w' h b n s' lv' cv') (hg : w.grownBy w' (some h)) : RDid B w w' h b n s' :=
  ⟨⟨_, _, c'⟩, (Below.refl B w).grown hg (by have := c.hB; have := c.grp.lt; omega) (fun k hk => by injection hk with hk; have := c.hB; omega), Kr.only hg c.grp (.inl rfl)⟩
theorem Rf.done (c : Rf B w h b n s lv cv) {d : List ByteArray} {v : Value} (hv : w.ownsRow B 9 1 v d.length (row (d.length * 1) (Str d))) : Rf B (w.setCell ⟨h, 1, none⟩ v) h b n ⟨s.nd, d⟩ lv v := by
  have hne : some b ≠ some h := fun e => blk_ne c.nds c.grp (by decide) (by injection e)
  refine ⟨?_, Blk.grown c.nds (only_set (only_refl w h) _ _) hne, fun j hj => own_put (c.own j hj) (own_blk (c.own j hj) c.grp (by decide)) _ _, own_put hv (own_blk hv c.grp (by decide)) _ _, c.hB, c.bB, c.n1, c.n7, c.l, c.e⟩
  have := Blk.set_ c.grp 1 v
  exact this
theorem Rf.aside {w1 : World} (c : Rf B w h b n s lv cv) {v : Value} {m : Nat} {xs : List Value} (hv : w.ownsRow B 9 1 v m xs) (hg : w.grownBy w1 v.ownBlock) (hcv : cv.ownBlock = none ∨ cv.ownBlock ≠ v.ownBlock) : Rf B w1 h b n s lv cv :=
  ⟨Blk.grown c.grp hg (fun e => own_blk hv c.grp (by decide) e.symm), Blk.grown c.nds hg (fun e => own_blk hv c.nds (by decide) e.symm), fun i hi => (c.own i hi).kept hg (own_types (c.own i hi) hv (by decide)), c.cow.kept hg hcv, c.hB, c.bB, c.n1, c.n7, c.l, c.e⟩
/-- The object but for its committed texts. -/
structure Rq (B : Nat) (w0 w : World) (h b n : Nat) (s : St) (lv : Nat → Value) (d : List ByteArray) (v : Value) (q : Nat) (cs : Array Value) : Prop where
  rf : Rf B w h b n ⟨s.nd, d⟩ lv v
  grown : w0.grownBy w (some h)
  fresh : ∀ k, v.ownBlock = some k → w0.heap.size ≤ k
  ld : Blk w q 71 cs
theorem Rq.drawn {w0 : World} {d : List ByteArray} {v : Value} {q : Nat} {cs : Array Value} (r : Rq B w0 w h b n s lv d v q cs) (k : Nat) : Rq B w0 (w.drewN k) h b n s lv d v q cs :=
  ⟨r.rf.drewN k, only_drewN r.grown k, r.fresh, r.ld.drewN k⟩
/-- One text more. -/
theorem Rq.more {w0 w5 : World} {d : List ByteArray} {v : Value} {q g cap : Nat} {cs : Array Value} {o : Go.Obj} {t : ByteArray} (r : Rq B w0 w h b n s lv d v q cs) (hqh : q ≠ h) (hg : (w.alloc o).grownBy w5 v.ownBlock)
    (hv : w5.ownsRow B 9 1 (.slice (some ⟨g, 0, none⟩) (d.length + 1) cap) (d.length + 1) (row (d.length * 1) (Str d) ++ [.string t])) (hl : v.ownBlock = some g ∨ g = w.heap.size + 1) :
    Rq B w0 (w5.setCell ⟨h, 1, none⟩ (.slice (some ⟨g, 0, none⟩) (d.length + 1) cap)) h b n s lv (d ++ [t]) (.slice (some ⟨g, 0, none⟩) (d.length + 1) cap) q cs := by
  have hal : Below w.heap.size w (w.alloc o) := (Below.refl w.heap.size w).alloc (Nat.le_refl _) o
  have ca := r.rf.keep hal
  have hge : w0.heap.size ≤ g := by
    rcases hl with e | e
    · exact r.fresh g e
    · have := r.grown.size; omega
  have h1 : w0.grownBy w5 (some h) := by
    have g1 := only_alloc r.grown o
    refine ⟨hg.os.trans g1.os, hg.tape.trans g1.tape, hg.output.trans g1.output, Nat.le_trans g1.size hg.size, fun k hk hne => ?_⟩
    refine (hg.block k (Nat.lt_of_lt_of_le hk g1.size) fun e => ?_).trans (g1.block k hk hne)
    have := r.fresh k e.symm
    omega
  have gb := Blk.grown ca.grp hg (fun e => own_blk ca.cow ca.grp (by decide) e.symm)
  have nb := Blk.grown ca.nds hg (fun e => own_blk ca.cow ca.nds (by decide) e.symm)
  have hne : some b ≠ some h := fun e => blk_ne ca.nds ca.grp (by decide) (by injection e)
  have lb : Blk w5 q 71 cs := Blk.grown (r.ld.keep hal) hg (fun e => own_blk ca.cow (r.ld.keep hal) (by decide) e.symm)
  refine ⟨⟨?_, Blk.grown nb (only_set (only_refl w5 h) _ _) hne, fun j hj => own_put ((ca.own j hj).kept hg (own_types (ca.own j hj) ca.cow (by decide))) (own_blk ((ca.own j hj).kept hg (own_types (ca.own j hj) ca.cow (by decide))) gb (by decide)) _ _, ?_, ca.hB, ca.bB, ca.n1, ca.n7, ca.l, ca.e⟩, only_set h1 1 _, fun k hk => ?_, Blk.grown lb (only_set (only_refl w5 h) _ _) (fun e => hqh (by injection e))⟩
  · exact Blk.set_ gb 1 _
  · have hv2 : w5.ownsRow B 9 1 (.slice (some ⟨g, 0, none⟩) (d.length + 1) cap) (d ++ [t]).length (row ((d ++ [t]).length * 1) (Str (d ++ [t]))) := by
      rw [row_str, List.length_append, List.length_singleton]
      exact hv
    exact own_put hv2 (own_blk hv2 gb (by decide)) _ _
  · have : k = g := by
      have h2 : some g = some k := hk
      injection h2 with h2
      exact h2.symm
    omega
theorem Rq.far {w0 w5 : World} {d : List ByteArray} {v : Value} {q : Nat} {cs : Array Value} {o : Go.Obj} (r : Rq B w0 w h b n s lv d v q cs) (hg : (w.drew.alloc o).grownBy w5 v.ownBlock) : w5.cell? ⟨h, 1, none⟩ = some v ∧ w5.frozen? ⟨h, 1, none⟩ = false := by
  have ca := (r.rf.drewN 1).keep ((Below.refl (w.drewN 1).heap.size (w.drewN 1)).alloc (Nat.le_refl _) o)
  have gb : Blk w5 h 67 #[.slice (some ⟨b, 0, none⟩) n n, v] := Blk.grown ca.grp hg (fun e => own_blk ca.cow ca.grp (by decide) e.symm)
  exact ⟨gb.cell 1, gb.frozen 1⟩
theorem take_more (l : Log) {k : Nat} (hk : k < l.length) : (l.take (k + 1)).map Prod.snd = (l.take k).map Prod.snd ++ [tt l k] := by
  rw [List.take_add_one, List.map_append]
  congr 1
  unfold tt
  rw [List.getD_eq_getElem?_getD, List.getElem?_eq_getElem hk]
  rfl
set_option maxHeartbeats 8000000 in
set_option maxRecDepth 100000 in
theorem rupdate_any (c : Rf B w h b n s lv cv) {i : Nat} (hi : i < n) :
    Calls Try.prog 49 #[.pointer (some ⟨h, 0, none⟩), .int .i64 (i : Int)] w fun e w' => e = .returned (.tuple #[]) ∧ RDid B w w' h b n (upd n s i) ∧ w.grownBy w' (some h) := by
  obtain ⟨i0, hj0, hz0, hz1, hz2⟩ := info_parts Try.infoStr
  have hn7 := c.n7
  obtain ⟨g0, g1⟩ := c.g0
  obtain ⟨p0, p1, p2, p3, p4⟩ := c.at_ hi
  obtain ⟨A, cp, hlv, hcp, hA⟩ := c.log hi
  obtain ⟨Ac, cc, hcv, hcc⟩ := own_slice c.cow
  have hl := c.l i hi
  have hhw := c.grp.lt
  have hbw := c.nds.lt
  have hBw : B ≤ w.heap.size := by have := c.hB; omega
  rw [hlv] at p4
  have HC := Lib.hid c
  have HLV := Lib.hid hlv
  have HCV := Lib.hid hcv
  have hal := (Below.refl w.heap.size w).alloc (Nat.le_refl _) (.cells #[.bool (s.nd i).down, .bool (s.nd i).cut, .int .i64 ((s.nd i).ep : Int), .int .i64 ((s.nd i).led : Int), .slice A (s.nd i).log.length cp] 71)
  have HQ0 := Lib.hid (show True from trivial)
  have HRA := Lib.hid (c.keep hal)
  have HLD := Lib.hid (Blk.new w 71 #[.bool (s.nd i).down, .bool (s.nd i).cut, .int .i64 ((s.nd i).ep : Int), .int .i64 ((s.nd i).led : Int), .slice A (s.nd i).log.length cp])
  have HAL := Lib.hid hal
  have HAC := Lib.hid (hA.below hal)
  obtain ⟨L, hL⟩ : ∃ q, q = (s.nd i).log.length := ⟨_, rfl⟩
  obtain ⟨d, hd⟩ : ∃ q, q = s.done.length := ⟨_, rfl⟩
  have HT := Lib.hid (show upd n s i = if top n s i (s.nd i).log.length = 0 then s else ⟨s.nd, ((s.nd i).log.take (top n s i (s.nd i).log.length)).map Prod.snd⟩ from rfl)
  have HL := Lib.hid hL
  have HD := Lib.hid hd
  rw [← hL] at p4 hcp hl HLV HLD HAL HAC HT HRA
  rw [hcv] at g1
  rw [← hd] at g1 hcc HCV
  clear c hlv hcv hA hal HQ0 hL hd
  go_enter Try.func49, Try.ntmps49
  go_wp2
  generalize w.alloc (.cells #[.bool (s.nd i).down, .bool (s.nd i).cut, .int .i64 ((s.nd i).ep : Int), .int .i64 ((s.nd i).led : Int), .slice A L cp] 71) = w1 at HRA HLD HAL HAC ⊢
  obtain ⟨q0, hq0⟩ : ∃ q0, q0 = w.heap.size := ⟨_, rfl⟩
  rw [← hq0] at HLD ⊢
  have hqh : q0 ≠ h := by omega
  have hqb : q0 ≠ b := by omega
  have HQ0 := Lib.hid hq0
  clear hq0 p0 p1 p2 p3 p4 g0 g1
  go_loopw [5] (fun a wr => ∃ m : Nat, m ≤ L ∧ a = .int .i64 m ∧ Hid (top n s i L = top n s i m) ∧ Hid (Dn w1 wr)) (fun a _ => (intOf a).toNat)
  case atStart => exact ⟨L, Nat.le_refl _, rfl, rfl, Dn.refl _⟩
  case round =>
    obtain ⟨m, hm, rfl, HTM, HDN⟩ := hrel
    have hg := HRA.out.g0
    have g0 := HDN.out.cell hg.1
    have g1 := HDN.out.cell hg.2
    rw [HCV.out] at g1
    have l2 : wr.cell? ⟨q0, 2, none⟩ = some (.int .i64 ((s.nd i).ep : Int)) := HDN.out.cell (HLD.out.cell 2)
    have l4 : wr.cell? ⟨q0, 4, none⟩ = some (.slice A L cp) := HDN.out.cell (HLD.out.cell 4)
    clear hg
    by_cases hgt : d < m
    · obtain ⟨r, hr⟩ : ∃ r, m = r + 1 := ⟨m - 1, by omega⟩
      have hrL : r < L := by omega
      have hm0 : 0 < m := by omega
      have HMR := Lib.hid hr
      obtain ⟨bA, off, eA, hlt, hc⟩ := HAC.out (by omega)
      subst eA
      have c0 := HDN.out.cell ((hc (r * 2) (by omega)).trans (by rw [(Ent_at _ _).1]))
      have h6 : IntKind.i64.wrap ((m : Int) - 1) = (r : Int) := by rw [show (m : Int) - 1 = (r : Int) by omega]; exact IntWalk.i64_in _ (by omega)
      clear hc hr
      by_cases he : ee (s.nd i).log r = (s.nd i).ep
      · have h7 : ((ee (s.nd i).log r : Int) != ((s.nd i).ep : Int)) = false := by simp; omega
        have HOK := Lib.hid (show okm n s i m = decide (n < 2 * cnt (Vt n s i m) n) by unfold okm; rw [show m - 1 = r by have := HMR.out; omega, he, Vt_all hm0 hn7]; simp)
        clear he
        go_wp2
        go_quiet (fail)
        go_wp2
        have HDN2 := Lib.hid (HDN.out.on ⟨nq, rfl⟩)
        generalize wr.drewN nq = wz at HDN2 ⊢
        clear g0 g1 l2 l4 c0 HDN
        go_loopw [6, 7] (fun a b2 wq => ∃ k c : Nat, k ≤ n ∧ a = .int .i64 c ∧ b2 = .int .i64 k ∧ c ≤ k ∧ Hid (c = cnt (Vt n s i m) k) ∧ Hid (Dn w1 wq)) (fun _ b2 _ => 20 - (intOf b2).toNat)
        case atStart => exact ⟨0, 0, Nat.zero_le _, rfl, rfl, Nat.le_refl _, rfl, HDN2⟩
        case round =>
          clear HDN2
          obtain ⟨k, c, hk, rfl, rfl, hck, HCN, HDN⟩ := hrel
          have hg := HRA.out.g0
          have g0 := HDN.out.cell hg.1
          have g1 := HDN.out.cell hg.2
          rw [HCV.out] at g1
          have l2 : wr.cell? ⟨q0, 2, none⟩ = some (.int .i64 ((s.nd i).ep : Int)) := HDN.out.cell (HLD.out.cell 2)
          have l4 : wr.cell? ⟨q0, 4, none⟩ = some (.slice (some ⟨bA, off, none⟩) L cp) := HDN.out.cell (HLD.out.cell 4)
          clear hg
          by_cases hkn : k < n
          · obtain ⟨_, _, k2, _, k4⟩ := HRA.out.at_ hkn
            have k2 := HDN.out.cell k2
            have k4 := HDN.out.cell k4
            obtain ⟨Ak, ck, hlk, _, hAk⟩ := HRA.out.log hkn
            have hlk24 := HRA.out.l k hkn
            rw [hlk] at k4
            have HST := Lib.hid (cnt_step (Vt n s i m) k c HCN.out)
            by_cases he2 : (s.nd k).ep = (s.nd i).ep
            · have HVI := Lib.hid (Vt_in (i := i) (m := m) hkn he2)
              rw [he2] at k2
              have hee : (((s.nd i).ep : Int) == ((s.nd i).ep : Int)) = true := by simp
              have HB2 : Hid (∀ w', Dn w1 w' → Calls Try.prog 51 #[.slice Ak (s.nd k).log.length ck, .slice (some ⟨bA, off, none⟩) L cp, .int .i64 (m : Int)] w' fun e w'' => e = .returned (.bool (Vt n s i m k)) ∧ Dn w1 w'') := fun w' hd => by
                have hd0 := hd
                obtain ⟨q, rfl⟩ := hd
                refine (rbegins_any (w := w1.drewN q) (m := m) hAk HAC.out rfl HL.out.symm hlk24 hl (by omega)).mono ?_
                rintro e w2 ⟨rfl, h2⟩
                exact ⟨by rw [HVI.out], hd0.on h2⟩
              have HALL : Hid (∀ w', Dn w1 w' → w'.cell? ⟨h, 0, none⟩ = some (.slice (some ⟨b, 0, none⟩) n n) ∧ w'.cell? ⟨b, k * 5 + 2, none⟩ = some (.int .i64 ((s.nd i).ep : Int)) ∧ w'.cell? ⟨q0, 2, none⟩ = some (.int .i64 ((s.nd i).ep : Int)) ∧ w'.cell? ⟨b, k * 5 + 4, none⟩ = some (.slice Ak (s.nd k).log.length ck) ∧ w'.cell? ⟨q0, 4, none⟩ = some (.slice (some ⟨bA, off, none⟩) L cp) ∧ Dn w1 w') := fun w' hd => by
                obtain ⟨_, _, x2, _, x4⟩ := HRA.out.at_ hkn
                rw [he2] at x2
                rw [hlk] at x4
                exact ⟨hd.cell HRA.out.g0.1, hd.cell x2, hd.cell (HLD.out.cell 2), hd.cell x4, hd.cell (HLD.out.cell 4), hd⟩
              have A0 : Dn w1 wr.drew := HDN.out.on ⟨1, rfl⟩
              clear hAk hlk he2
              go_wp2_with fail
              go_region_held3 (fun w' => w'.cell? ⟨h, 0, none⟩ = some (.slice (some ⟨b, 0, none⟩) n n) ∧ w'.cell? ⟨b, k * 5 + 2, none⟩ = some (.int .i64 ((s.nd i).ep : Int)) ∧ w'.cell? ⟨q0, 2, none⟩ = some (.int .i64 ((s.nd i).ep : Int)) ∧ w'.cell? ⟨b, k * 5 + 4, none⟩ = some (.slice Ak (s.nd k).log.length ck) ∧ w'.cell? ⟨q0, 4, none⟩ = some (.slice (some ⟨bA, off, none⟩) L cp) ∧ Dn w1 w')
                (first
                  | exact HALL.out _ (by assumption))
                (first
                  | (go_at_call 51; refine (HB2.out _ (by assumption)).mono ?_; rintro e5 w5 ⟨rfl, t5⟩))
              all_goals
                have HD5 := Lib.hid t5
                clear t5 A0 g0 g1 l2 l4 k2 k4
                cases hv : Vt n s i m k with
                | true =>
                  have HX := Lib.hid (HST.out.1 hv)
                  have hwc : IntKind.i64.wrap ((c : Int) + 1) = (c : Int) + 1 := IntWalk.i64_in _ (by omega)
                  go_wp2
                  go_roundw
                  case rel => exact ⟨k + 1, c + 1, by omega, by go_num, by go_num, by omega, HX, HD5⟩
                  case measure => simp [intOf]; omega
                | false =>
                  have HX := Lib.hid (HST.out.2 hv)
                  go_wp2
                  go_roundw
                  case rel => exact ⟨k + 1, c, by omega, rfl, by go_num, by omega, HX, HD5⟩
                  case measure => simp [intOf]; omega
            · have hee : (((s.nd k).ep : Int) == ((s.nd i).ep : Int)) = false := by simp; omega
              have HX := Lib.hid (HST.out.2 (Vt_out (m := m) (by omega) he2))
              clear hAk hlk he2 k4
              go_wp2
              go_quiet (fail)
              go_wp2
              go_roundw
              case rel => exact ⟨k + 1, c, by omega, rfl, by go_num, by omega, HX, HDN.out.on ⟨nq, rfl⟩⟩
              case measure => simp [intOf]; omega
          · obtain rfl : k = n := by omega
            have hwc : IntKind.i64.wrap (2 * (c : Int)) = 2 * (c : Int) := IntWalk.i64_in _ (by omega)
            by_cases hmj : k < 2 * c
            · have hmj' : (k : Int) < 2 * (c : Int) := by omega
              have HF : Hid (top k s i m = m) := by
                have h1 : okm k s i m = true := by rw [HOK.out, ← HCN.out]; exact decide_eq_true hmj
                have h2 : s.done.length < m := by rw [← HD.out]; exact hgt
                rw [HMR.out] at h1 h2 ⊢
                exact top_yes h2 h1
              have f1 := HDN.out.frozen ((HRA.out.grp).frozen 1)
              have hsz1 := HAL.out.size
              have HQS : Hid (Rq B w (wr.setCell ⟨h, 1, none⟩ (.slice none 0 0)) h b k s lv ((((s.nd i).log.take 0)).map Prod.snd) (.slice none 0 0) q0 #[.bool (s.nd i).down, .bool (s.nd i).cut, .int .i64 ((s.nd i).ep : Int), .int .i64 ((s.nd i).led : Int), .slice (some ⟨bA, off, none⟩) L cp]) := by
                obtain ⟨q, rfl⟩ := HDN.out
                exact ⟨(HRA.out.drewN q).done (d := []) (World.ownsRow_nil _ _ _ _), only_set (only_of (below_drewN HAL.out q) h) 1 _, fun k hk => (by cases hk), Blk.grown (HLD.out.drewN q) (only_set (only_refl (w1.drewN q) h) 1 _) (fun e => hqh (by injection e))⟩
              clear hmj
              go_wp2
              go_loopw [8] (fun a wq => ∃ (j : Nat) (v : Value), j ≤ m ∧ a = .int .i64 j ∧ Hid (Rq B w wq h b k s lv (((s.nd i).log.take j).map Prod.snd) v q0 #[.bool (s.nd i).down, .bool (s.nd i).cut, .int .i64 ((s.nd i).ep : Int), .int .i64 ((s.nd i).led : Int), .slice (some ⟨bA, off, none⟩) L cp])) (fun a _ => 2000 - (intOf a).toNat)
              case atStart => exact ⟨0, _, Nat.zero_le _, rfl, HQS⟩
              case round =>
                clear HQS g0 g1 l2 l4 f1 HDN
                obtain ⟨j, v, hj, rfl, HQ⟩ := hrel
                have hg := HQ.out.rf.g0
                have g1 := hg.2
                have l4 : wr.cell? ⟨q0, 4, none⟩ = some (.slice (some ⟨bA, off, none⟩) L cp) := HQ.out.ld.cell 4
                clear hg
                by_cases hjr : j < m
                · have hcw := HQ.out.rf.own i hi
                  rw [HLV.out] at hcw
                  have hcw2 : Cells wr (some ⟨bA, off, none⟩) (L * 2) (Ent (s.nd i).log) := by rw [HL.out] at hcw ⊢; exact Cells.of_own hcw
                  obtain ⟨bA2, off2, eA2, _, hc2⟩ := hcw2 (by omega)
                  injection eA2 with eA2
                  injection eA2 with eA2 eA3
                  subst eA2 eA3
                  have t1 : wr.cell? ⟨bA, off + j * 2 + 1, none⟩ = some (.string (tt (s.nd i).log j)) := by
                    have := (hc2 (j * 2 + 1) (by omega)).trans (by rw [(Ent_at _ _).2])
                    rw [← Nat.add_assoc] at this
                    exact this
                  have HJ : Hid ((((s.nd i).log.take j).map Prod.snd).length = j) := by rw [List.length_map, List.length_take, ← HL.out]; exact (by omega : min j L = j)
                  have hjL : j < L := by omega
                  have HTK := Lib.hid (take_more (s.nd i).log (k := j) (by rw [← HL.out]; exact hjL))
                  have hBr : B ≤ wr.heap.size := Nat.le_trans hBw HQ.out.grown.size
                  have hj2 : j ≤ 1024 := by omega
                  have hhr := HQ.out.rf.grp.lt
                  have hqr := HQ.out.ld.lt
                  have hAr := World.block_lt_of_cell? _ _ t1
                  have hhr2 : h ≠ wr.heap.size := by omega
                  have hqr2 : q0 ≠ wr.heap.size := by omega
                  have hcow : wr.ownsRow B 9 1 v j (row (j * 1) (Str (((s.nd i).log.take j).map Prod.snd))) := by
                    have := HQ.out.rf.cow
                    rw [show (⟨s.nd, ((s.nd i).log.take j).map Prod.snd⟩ : St).done.length = j from HJ.out] at this
                    exact this
                  have HO := Lib.hid (own_keep hcow (below_drewN (Below.refl wr.heap.size wr) 1))
                  clear hcw hcw2 hc2 hcow
                  go_wp2
                  go_region_law (first
                    | (refine step_append_lies _ (by rfl) _ _ _ (by rfl) B 9 i0 _ 1 16 Try.underlying22 hj0 hz0 hz1 hz2 rfl (by omega) _ j (row (j * 1) (Str (((s.nd i).log.take j).map Prod.snd))) (by rfl) (HO.out.alloc _)
                        ⟨wr.heap.size, 0, none⟩ 1 1 [.string (tt (s.nd i).log j)] (by rfl) (by rfl) (fun j' u hu => new_cell rfl (by simpa using hu)) (by simp [Value.oneCell'])
                        (by omega) (by unfold maxLen; omega) (by omega) (by simp; omega) (wr.heap.size + 1) (by simp) ?_; intro g5 cap5 w5 hown5 hgrow5 hat5 hlt5; obtain ⟨y1, y2⟩ := HQ.out.far hgrow5))
                  all_goals
                    have HM := Lib.hid ((HQ.out.drawn 1).more (t := tt (s.nd i).log j) hqh (by exact hgrow5) (by rw [HJ.out]; exact hown5) (by exact hat5))
                    rw [HJ.out, ← HTK.out] at HM
                    clear hown5 hgrow5 hat5 hlt5 y1 y2 HO
                    go_wp2
                    go_roundw
                    case rel => exact ⟨j + 1, _, by omega, by go_num, HM⟩
                    case measure => simp [intOf]; omega
                · obtain rfl : j = m := by omega
                  have HU := Lib.hid (show RDid B w wr h b k (upd k s i) by
                    rw [HT.out, HTM.out, HF.out, if_neg (by omega)]
                    exact HC.out.did_h HQ.out.rf HQ.out.grown)
                  go_wp2
                  refine bodyPost_ret (results_none rfl _ _ _) rfl ?_
                  exact ⟨rfl, HU.out, HQ.out.grown⟩
            · have hmj' : ¬ (k : Int) < 2 * (c : Int) := by omega
              have HF : Hid (top k s i m = top k s i r) := by
                have h1 : okm k s i m = false := by rw [HOK.out, ← HCN.out]; exact decide_eq_false hmj
                have h2 : s.done.length < m := by rw [← HD.out]; exact hgt
                rw [HMR.out] at h1 h2 ⊢
                exact top_no h2 h1
              go_wp2
              go_roundw
              case rel => exact ⟨r, by omega, by go_num, HTM.out.trans HF.out, HDN⟩
              case measure => have := HMR.out; simp [intOf]; omega
      · have h7 : ((ee (s.nd i).log r : Int) != ((s.nd i).ep : Int)) = true := by simp; omega
        have HN : Hid (top n s i m = top n s i r) := by
          have h1 : okm n s i m = false := by unfold okm; rw [show m - 1 = r by have := HMR.out; omega]; simp [he]
          have h2 : s.done.length < m := by rw [← HD.out]; exact hgt
          rw [HMR.out] at h1 h2 ⊢
          exact top_no h2 h1
        clear he
        go_wp2
        go_quiet (fail)
        go_wp2
        go_roundw
        case rel => exact ⟨r, by omega, by go_num, HTM.out.trans HN.out, HDN.out.on ⟨nq, rfl⟩⟩
        case measure => have := HMR.out; simp [intOf]; omega
    · have HN := Lib.hid (top_out (n := n) (i := i) (show ¬ s.done.length < m by rw [← HD.out]; exact hgt))
      have HGN : Hid (w.grownBy wr (some h)) := by
        obtain ⟨q, rfl⟩ := HDN.out
        exact only_of (below_drewN HAL.out q) h
      have HU := Lib.hid (show RDid B w wr h b n (upd n s i) by
        rw [HT.out, if_pos (by rw [HTM.out, HN.out])]
        obtain ⟨q, rfl⟩ := HDN.out
        exact HC.out.kept (below_drewN HAL.out q))
      go_wp2
      go_end0
      exact ⟨rfl, HU.out, HGN.out⟩
end
end Rp
end Go.Proofs.Ytdbpbpnbcjbchaa
