/- The walk of the law ReplicaErrors. -/
import Derived.Test.YtdbpbpnbcjbchaaRepLawC
set_option linter.unusedVariables false
namespace Go.Proofs.Ytdbpbpnbcjbchaa
open Go.RowKit
theorem Try.infoI3 : (Try.prog.info? 3).map (fun i => (i.zero, i.size, i.bytes)) = some (some (.int .i64 0), 1, 8) := by kernel_rfl
theorem Try.infoSs : (Try.prog.info? 22).map (fun i => (i.zero, i.size, i.bytes)) = some (some (.slice none 0 0), 1, 24) := by kernel_rfl
namespace Rp
/-- The object is kept where a row of another type turns. -/
theorem Gp.aside {B B' : Nat} {w w1 : World} {h n : Nat} {s : St} {lv : Nat → Value} {cv : Value} (c : Gp B w h n s lv cv) {e : TypeId} {size : Nat} {v : Value} {m : Nat} {xs : List Value} (hv : w.ownsRow B' e size v m xs) (hg : w.grownBy w1 v.ownBlock)
    (h1 : 62 ≠ e) (h2 : 9 ≠ e) (h3 : e ≠ 55) : Gp B w1 h n s lv cv := by
  have hh : some h ≠ v.ownBlock := fun eq => by
    have hb := c.blk
    unfold Arr Blk at hb
    obtain ⟨cur, hc⟩ := own_obj hv eq.symm
    rw [hb] at hc
    injection hc with hc
    injection hc with _ hc
    exact h3 hc.symm
  exact ⟨Blk.grown c.blk hg hh, fun i hi => (c.own i hi).kept hg (own_types (c.own i hi) hv h1), c.cow.kept hg (own_types c.cow hv h2), c.dif, c.hB, c.n1, c.n7, c.zero, c.l, c.e⟩
/-- What the law has written down: k epochs and logs. -/
structure Nt (W w : World) (n : Nat) (s : St) (ve vl : Value) (V : Nat → Value) (k : Nat) : Prop where
  obj : Obj W.heap.size w W.heap.size n s
  below : Below W.heap.size W w
  eps : w.ownsRow W.heap.size 3 1 ve k (row (k * 1) (fun j => .int .i64 ((s.nd j).ep : Int)))
  lgs : w.ownsRow W.heap.size 22 1 vl k (row (k * 1) V)
  vs : ∀ j, j < k → w.ownsRow W.heap.size 9 1 (V j) (s.nd j).log.length (row ((s.nd j).log.length * 1) (Tx (s.nd j).log))
theorem Nt.size {W w : World} {n k : Nat} {s : St} {ve vl : Value} {V : Nat → Value} (t : Nt W w n s ve vl V k) : W.heap.size ≤ w.heap.size := t.below.size
theorem Nt.keep {W w w1 : World} {n k : Nat} {s : St} {ve vl : Value} {V : Nat → Value} (t : Nt W w n s ve vl V k) (h : Below w.heap.size w w1) : Nt W w1 n s ve vl V k :=
  ⟨(t.obj.keep h).obj, Below.on t.below h, own_keep t.eps h, own_keep t.lgs h, fun j hj => own_keep (t.vs j hj) h⟩
theorem Nt.drawn {W w w1 : World} {n k : Nat} {s : St} {ve vl : Value} {V : Nat → Value} (t : Nt W w n s ve vl V k) (h : Dn w w1) : Nt W w1 n s ve vl V k := by
  obtain ⟨q, rfl⟩ := h
  exact t.keep (below_drewN (Below.refl _ _) q)
theorem Nt.did {W w w1 : World} {n k : Nat} {s s1 : St} {ve vl : Value} {V : Nat → Value} (t : Nt W w n s ve vl V k) (h : Did W.heap.size w w1 W.heap.size n s1) (hs : s1 = s) : Nt W w1 n s ve vl V k := by
  subst hs
  exact ⟨h.obj, t.below.trans h.below, Kp.own (B' := 0) t.eps h.kp (by decide) (by decide), Kp.own (B' := 0) t.lgs h.kp (by decide) (by decide), fun j hj => Kp.own (B' := 0) (t.vs j hj) h.kp (by decide) (by decide)⟩
/-- Behind the two appends. -/
theorem Nt.next {W w w1 w2 w3 w4 w5 : World} {n k : Nat} {s : St} {ve vl ve' vl' u : Value} {V : Nat → Value} {o1 o2 : Go.Obj} (t : Nt W w n s ve vl V k)
    (hw1 : w1 = w.alloc o1) (hg1 : w1.grownBy w2 ve.ownBlock) (he : w2.ownsRow W.heap.size 3 1 ve' (k + 1) (row ((k + 1) * 1) (fun j => .int .i64 ((s.nd j).ep : Int))))
    (hb3 : Below w2.heap.size w2 w3) (hu : w3.ownsRow w2.heap.size 9 1 u (s.nd k).log.length (row ((s.nd k).log.length * 1) (Tx (s.nd k).log)))
    (hw4 : w4 = w3.alloc o2) (hg2 : w4.grownBy w5 vl.ownBlock) (hl : w5.ownsRow W.heap.size 22 1 vl' (k + 1) (row ((k + 1) * 1) (setL V k u))) : Nt W w5 n s ve' vl' (setL V k u) (k + 1) := by
  have t1 : Nt W w1 n s ve vl V k := by rw [hw1]; exact t.keep ((Below.refl w.heap.size w).alloc (Nat.le_refl _) o1)
  obtain ⟨lv, cv, c1⟩ := t1.obj
  have c2 := c1.aside t1.eps hg1 (by decide) (by decide) (by decide)
  have l2 := t1.lgs.kept hg1 (own_types t1.lgs t1.eps (by decide))
  have v2 : ∀ j, j < k → w2.ownsRow W.heap.size 9 1 (V j) (s.nd j).log.length (row ((s.nd j).log.length * 1) (Tx (s.nd j).log)) := fun j hj => (t1.vs j hj).kept hg1 (own_types (t1.vs j hj) t1.eps (by decide))
  have b2 : Below W.heap.size W w2 := t1.below.grown hg1 t1.size (fun q hq => (t1.eps.lt q hq).1)
  have hal : Below w3.heap.size w3 w4 := by rw [hw4]; exact (Below.refl w3.heap.size w3).alloc (Nat.le_refl _) o2
  have c4 := (c2.keep hb3).keep hal
  have l4 := own_keep (own_keep l2 hb3) hal
  have e4 := own_keep (own_keep he hb3) hal
  have b4 : Below W.heap.size W w4 := Below.on (Below.on b2 hb3) hal
  have u4 := own_base (own_keep hu hal) b2.size
  have v4 : ∀ j, j < k → _ := fun j hj => own_keep (own_keep (v2 j hj) hb3) hal
  refine ⟨⟨lv, cv, c4.aside l4 hg2 (by decide) (by decide) (by decide)⟩, b4.grown hg2 b4.size (fun q hq => (l4.lt q hq).1), e4.kept hg2 (own_types e4 l4 (by decide)), hl, fun j hj => ?_⟩
  by_cases hjk : j = k
  · subst hjk
    show w5.ownsRow _ _ _ (setL V j u j) _ _
    rw [show setL V j u j = u from if_pos rfl]
    exact u4.kept hg2 (own_types u4 l4 (by decide))
  · show w5.ownsRow _ _ _ (setL V k u j) _ _
    rw [show setL V k u j = V j from if_neg hjk]
    exact (v4 j (by omega)).kept hg2 (own_types (v4 j (by omega)) l4 (by decide))
theorem row_set (V : Nat → Value) (k : Nat) (u : Value) : row ((k + 1) * 1) (setL V k u) = row (k * 1) V ++ [u] := by
  rw [Nat.mul_one, Nat.mul_one, row_one]
  congr 1
  · exact row_congr fun j hj => if_neg (by omega)
  · rw [show setL V k u k = u from if_pos rfl]
theorem row_ep (s : St) (k : Nat) : row ((k + 1) * 1) (fun j => .int .i64 ((s.nd j).ep : Int)) = row (k * 1) (fun j => .int .i64 ((s.nd j).ep : Int)) ++ [.int .i64 ((s.nd k).ep : Int)] := by
  rw [Nat.mul_one, Nat.mul_one, row_one]
/-- Beside it, the committed texts of before. -/
structure Nw (W w : World) (n : Nat) (s : St) (ve vl vw : Value) (V : Nat → Value) : Prop where
  t : Nt W w n s ve vl V n
  was : w.ownsRow W.heap.size 9 1 vw s.done.length (row (s.done.length * 1) (Str s.done))
theorem Nw.keep {W w w1 : World} {n : Nat} {s : St} {ve vl vw : Value} {V : Nat → Value} (t : Nw W w n s ve vl vw V) (h : Below w.heap.size w w1) : Nw W w1 n s ve vl vw V := ⟨t.t.keep h, own_keep t.was h⟩
theorem Nw.drawn {W w w1 : World} {n : Nat} {s : St} {ve vl vw : Value} {V : Nat → Value} (t : Nw W w n s ve vl vw V) (h : Dn w w1) : Nw W w1 n s ve vl vw V := by
  obtain ⟨q, rfl⟩ := h
  exact t.keep (below_drewN (Below.refl _ _) q)
theorem Nw.did {W w w1 : World} {n : Nat} {s s1 : St} {ve vl vw : Value} {V : Nat → Value} (t : Nw W w n s ve vl vw V) (h : Did W.heap.size w w1 W.heap.size n s1) (hs : s1 = s) : Nw W w1 n s ve vl vw V := ⟨t.t.did h hs, Kp.own (B' := 0) t.was h.kp (by decide) (by decide)⟩
set_option maxHeartbeats 8000000 in
set_option maxRecDepth 100000 in
theorem errors_u (W : World) {u : Nat} (hu : u < 256) {D : Option Addr} {m c : Nat} {R : Nat → Ac} (hm : m ≤ c) (hc : c ≤ maxLen) (hD : Cells W D (m * 4) (Four4 R)) (hs : ∀ i, i < m → (R i).t.size ≤ maxLen) :
    Calls Try.prog 9 #[.int .u8 (u : Int), .slice D m c] W fun e w' => e = .returned (.bool true) ∧ Below W.heap.size W w' := by
  obtain ⟨i1, hi1, hy0, hy1, hy2⟩ := info_parts Try.infoI3
  obtain ⟨i2, hi2, hx0, hx1, hx2⟩ := info_parts Try.infoSs
  unfold maxLen at hc
  have q1 : Int.tmod (u : Int) 7 = ((u % 7 : Nat) : Int) := by rw [Int.tmod_eq_emod_of_nonneg (by omega)]; omega
  obtain ⟨r, hr⟩ : ∃ r, r = u % 7 := ⟨_, rfl⟩
  rw [← hr] at q1
  have hr7 : r < 7 := by omega
  have q2 : IntKind.u8.wrap (r : Int) = (r : Int) := IntWalk.u8_in _ (by omega)
  have q3 : IntKind.i64.wrap (r : Int) = (r : Int) := IntWalk.i64_in _ (by omega)
  have q4 : IntKind.i64.wrap ((r : Int) + 1) = (r : Int) + 1 := IntWalk.i64_in _ (by omega)
  have HD := Lib.hid hD
  have HS := Lib.hid hs
  clear hD hs hr
  go_enter Try.func9, Try.ntmps9
  go_wp2_with fail
  refine (new_int W (n := r + 1) (by omega) (by omega) (by omega)).mono ?_
  rintro e w1 ⟨rfl, ha⟩
  have HA := Lib.hid ha
  clear ha
  go_wp2
  go_loopw [8] (fun i wr => ∃ (k : Nat) (s : St), k ≤ m ∧ k ≤ 40 ∧ i = .int .i64 k ∧ Hid (At W wr W.heap.size (r + 1) s) ∧ Hid (Lim s k)) (fun i _ => m - (intOf i).toNat)
  case atStart => exact ⟨0, st0, Nat.zero_le _, Nat.zero_le _, rfl, HA, lim0⟩
  case round =>
    clear HA
    obtain ⟨k, s, hk, hk40, rfl, HA, HL⟩ := hrel
    by_cases hkn : k < m ∧ k < 40
    · obtain ⟨hkm, hk4⟩ := hkn
      obtain ⟨wo, hwo⟩ : ∃ wo : World, wo = wr := ⟨_, rfl⟩
      obtain rfl := hwo.symm
      have HN0 : Hid (Nt W wr (r + 1) s (.slice none 0 0) (.slice none 0 0) (fun _ => .slice none 0 0) 0) := ⟨HA.out.obj, HA.out.below, World.ownsRow_nil _ _ _ _, World.ownsRow_nil _ _ _ _, fun j hj => absurd hj (by omega)⟩
      go_wp2
      go_loopw [9, 10, 11] (fun ve vl j wq => ∃ (q : Nat) (V : Nat → Value), q ≤ r + 1 ∧ j = .int .i64 q ∧ Hid (Nt W wq (r + 1) s ve vl V q)) (fun _ _ j _ => 20 - (intOf j).toNat)
      case atStart => exact ⟨0, _, Nat.zero_le _, rfl, HN0⟩
      case round =>
        clear HN0 HA
        obtain ⟨q, V, hq, rfl, HN⟩ := hrel
        by_cases hqn : q < r + 1
        · have hqn' : (q : Int) < (r : Int) + 1 := by omega
          go_wp2_with fail
          refine (epoch_obj HN.out.obj (i := q) hqn).mono ?_
          rintro e2 w2 ⟨rfl, rfl⟩
          go_wp2_with (at_builtin; refine wpList_append_own _ rfl _ _ 48 rfl W.heap.size 3 i1 (.int .i64 0) 1 8 Try.underlying48 hi1 hy0 hy1 hy2 rfl (by decide) _ _ _ rfl (HN.out.eps.alloc _) ⟨wr.heap.size, 0, none⟩ 1 1 [.int .i64 ((s.nd q).ep : Int)] rfl rfl ?c1 ?c2 ?c3 ?c4 ?c5 ?_)
          try case c1 =>
            intro j u hj
            exact new_cell rfl (by simpa using hj)
          case c2 => first | rfl | (intro u hu; simp at hu; subst hu; rfl)
          case c3 => unfold maxLen; omega
          case c4 => omega
          case c5 => have := HN.out.size; first | omega | (simp; omega)
          intro ve' w2 hown2 hgrow2 _
          have HO2 : Hid (w2.ownsRow W.heap.size 3 1 ve' (q + 1) (row ((q + 1) * 1) (fun j => .int .i64 ((s.nd j).ep : Int)))) := by
            rw [row_ep, Nat.mul_one]; exact hown2
          have HG2 := Lib.hid hgrow2
          have hobj2 : Obj W.heap.size w2 W.heap.size (r + 1) s := by
            have t1 := HN.out.keep ((Below.refl wr.heap.size wr).alloc (Nat.le_refl _) (.cells #[.int .i64 ((s.nd q).ep : Int)] 3))
            obtain ⟨lv, cv, c1⟩ := t1.obj
            exact ⟨lv, cv, c1.aside t1.eps hgrow2 (by decide) (by decide) (by decide)⟩
          have HOBJ2 := Lib.hid hobj2
          have hsz2 : W.heap.size ≤ w2.heap.size := Nat.le_trans HN.out.size (Nat.le_trans (by simp) hgrow2.size)
          clear hown2 hgrow2 hobj2
          go_wp2_with fail
          refine (log_obj HOBJ2.out (i := q) hqn).mono ?_
          rintro e3 w3 ⟨v3, rfl, hv3, hb3⟩
          have HV3 := Lib.hid hv3
          have HB3 := Lib.hid hb3
          have hl3 : w3.ownsRow W.heap.size 22 1 u10 q (row (q * 1) V) := by
            have t1 := HN.out.keep ((Below.refl wr.heap.size wr).alloc (Nat.le_refl _) (.cells #[.int .i64 ((s.nd q).ep : Int)] 3))
            exact own_keep (t1.lgs.kept HG2.out (own_types t1.lgs t1.eps (by decide))) hb3
          have HL3 := Lib.hid hl3
          obtain ⟨D3, c3, hv3e, _⟩ := own_slice hv3
          have hsz3 := hb3.size
          clear hv3 hb3 hl3
          subst hv3e
          trace_state
          go_wp2_with (at_builtin; refine wpList_append_own _ rfl _ _ 49 rfl W.heap.size 22 i2 (.slice none 0 0) 1 24 Try.underlying49 hi2 hx0 hx1 hx2 rfl (by decide) _ _ _ rfl (HL3.out.alloc _) ⟨w3.heap.size, 0, none⟩ 1 1 [.slice D3 (s.nd q).log.length c3] rfl rfl ?d1 ?d2 ?d3 ?d4 ?d5 ?_)
          try case d1 =>
            intro j u hj
            exact new_cell rfl (by simpa using hj)
          case d2 => first | rfl | (intro u hu; simp at hu; subst hu; rfl)
          case d3 => unfold maxLen; omega
          case d4 => omega
          case d5 => first | omega | (simp; omega)
          intro vl' w5 hown5 hgrow5 _
          have HN5 := Lib.hid (HN.out.next rfl HG2.out HO2.out HB3.out HV3.out rfl hgrow5 (by rw [row_set, Nat.mul_one]; exact hown5))
          clear hown5 hgrow5
          go_wp2
          go_roundw
          case rel => exact ⟨q + 1, _, by omega, by go_num, HN5⟩
          case measure => simp [intOf]; omega
        · obtain rfl : q = r + 1 := by omega
          have hqn' : ¬ (((r + 1 : Nat) : Int) < (r : Int) + 1) := by omega
          obtain ⟨De, ce, h9, _⟩ := own_slice HN.out.eps
          subst h9
          obtain ⟨Dl, cl, h10, _⟩ := own_slice HN.out.lgs
          subst h10
          have hd24 : s.done.length ≤ 1024 := by have := HL.out.done; omega
          go_wp2_with fail
          refine (comm_obj HN.out.obj hd24).mono ?_
          rintro e2 w2 ⟨v2, rfl, hv2, hb2⟩
          have HW2 := Lib.hid (show Nw W w2 (r + 1) s (.slice De (r + 1) ce) (.slice Dl (r + 1) cl) v2 V from ⟨HN.out.keep hb2, own_base hv2 HN.out.size⟩)
          obtain ⟨D2, c2, h2, _⟩ := own_slice hv2
          subst h2
          clear hv2 hb2 HN
          obtain ⟨b, off, rfl, hlt, p0, p1, p2, p3⟩ := Cells.acts (HD.out.below HW2.out.t.below) hkm
          obtain ⟨a, hae⟩ : ∃ a, a = R k := ⟨_, rfl⟩
          have hsz := HS.out k hkm
          rw [← hae] at p0 p1 p2 p3 hsz
          have HSZ := Lib.hid hsz
          clear hae hsz
          go_wp2_with fail
          refine (do_any HW2.out.t.obj HL.out (by omega) HSZ.out).mono ?_
          rintro e3 w3 ⟨rfl, hd⟩
          have HDID := Lib.hid hd
          have HL3 := Lib.hid (lim_act (n := r + 1) (a := a) HL.out)
          have HERR := Lib.hid (act_err (n := r + 1) (s := s) (a := a))
          have HAT := Lib.hid (show At W w3 W.heap.size (r + 1) (actO (r + 1) s a).2.2 from ⟨hd.obj, HW2.out.t.below.trans hd.below⟩)
          obtain ⟨y, hy⟩ : ∃ y, y = (actO (r + 1) s a).2.1 := ⟨_, rfl⟩
          rw [← hy] at HERR
          rw [← hy]
          generalize (actO (r + 1) s a).1 = yy
          clear hy hd p0 p1 p2 p3 hlt
          by_cases y0 : y = 0
          · subst y0
            clear HERR HDID
            go_wp2
            go_roundw
            case rel => exact ⟨k + 1, _, by omega, by omega, by go_num, HAT, HL3⟩
            case measure => simp [intOf] <;> omega
          · have dy : ((y : Int) == 0) = false := by simp; exact y0
            have HW3 := Lib.hid (HW2.out.did HDID.out (HERR.out y0))
            obtain ⟨wp, hwp⟩ : ∃ wp : World, wp = w3 := ⟨_, rfl⟩
            obtain rfl := hwp.symm
            clear HERR HDID HAT HL3 y0
            go_wp2
            go_loopw [15] (fun i wq => ∃ j : Nat, j ≤ r + 1 ∧ i = .int .i64 j ∧ Hid (Nw W wq (r + 1) s (.slice De (r + 1) ce) (.slice Dl (r + 1) cl) (.slice D2 s.done.length c2) V)) (fun i _ => 20 - (intOf i).toNat)
            case atStart => exact ⟨0, Nat.zero_le _, rfl, HW3⟩
            case round =>
              clear HW3 HW2
              obtain ⟨j, hj, rfl, HW⟩ := hrel
              by_cases hjn : j < r + 1
              · have hjn' : (j : Int) < (r : Int) + 1 := by omega
                have hlt1 : j < r + 1 := hjn
                obtain ⟨be, oe, rfl, _, hce⟩ := (Cells.of_own HW.out.t.eps) (by omega)
                obtain ⟨bl, ol, rfl, _, hcl⟩ := (Cells.of_own HW.out.t.lgs) (by omega)
                have z1 : wr.cell? ⟨be, oe + j, none⟩ = some (.int .i64 ((s.nd j).ep : Int)) := hce j (by omega)
                have z2 : wr.cell? ⟨bl, ol + j, none⟩ = some (V j) := hcl j (by omega)
                obtain ⟨Dv, cv, hV, _⟩ := own_slice (HW.out.t.vs j hjn)
                rw [hV] at z2
                have HV := Lib.hid hV
                have hl24 : (s.nd j).log.length ≤ 1024 := by have := HL.out.log j; omega
                have deq : (((s.nd j).ep : Int) != ((s.nd j).ep : Int)) = false := by simp
                clear hce hcl hV
                have Z1 : wr.drew.cell? ⟨be, oe + j, none⟩ = some (.int .i64 ((s.nd j).ep : Int)) := z1
                have Z2 : wr.drew.cell? ⟨bl, ol + j, none⟩ = some (.slice Dv (s.nd j).log.length cv) := z2
                have A0 : Nw W wr.drew (r + 1) s (.slice (some ⟨be, oe, none⟩) (r + 1) ce) (.slice (some ⟨bl, ol, none⟩) (r + 1) cl) (.slice D2 s.done.length c2) V := HW.out.drawn (Dn.drew wr)
                have HEP : Hid (∀ w', Nw W w' (r + 1) s (.slice (some ⟨be, oe, none⟩) (r + 1) ce) (.slice (some ⟨bl, ol, none⟩) (r + 1) cl) (.slice D2 s.done.length c2) V → Calls Try.prog 20 #[.pointer (some ⟨W.heap.size, 0, none⟩), .int .i64 (j : Int)] w' fun e w'' => e = .returned (.int .i64 ((s.nd j).ep : Int)) ∧ w' = w'') := fun w' t => epoch_obj t.t.obj hjn
                have HLG : Hid (∀ w', Nw W w' (r + 1) s (.slice (some ⟨be, oe, none⟩) (r + 1) ce) (.slice (some ⟨bl, ol, none⟩) (r + 1) cl) (.slice D2 s.done.length c2) V → w'.cell? ⟨be, oe + j, none⟩ = some (.int .i64 ((s.nd j).ep : Int)) → w'.cell? ⟨bl, ol + j, none⟩ = some (.slice Dv (s.nd j).log.length cv) →
                    Calls Try.prog 21 #[.pointer (some ⟨W.heap.size, 0, none⟩), .int .i64 (j : Int)] w' fun e w'' => ∃ Dg cg, e = .returned (.slice Dg (s.nd j).log.length cg) ∧ Cells w'' Dg ((s.nd j).log.length * 1) (Tx (s.nd j).log) ∧ Nw W w'' (r + 1) s (.slice (some ⟨be, oe, none⟩) (r + 1) ce) (.slice (some ⟨bl, ol, none⟩) (r + 1) cl) (.slice D2 s.done.length c2) V ∧ w''.cell? ⟨be, oe + j, none⟩ = some (.int .i64 ((s.nd j).ep : Int)) ∧ w''.cell? ⟨bl, ol + j, none⟩ = some (.slice Dv (s.nd j).log.length cv)) := fun w' t g1 g2 => by
                  refine (log_obj t.t.obj hjn).mono ?_
                  rintro e w3 ⟨v, rfl, hv, hb⟩
                  obtain ⟨Dg, cg, rfl, _⟩ := own_slice hv
                  exact ⟨Dg, cg, rfl, Cells.of_own hv, t.keep hb, (hb.cell (World.block_lt_of_cell? _ _ g1)).trans g1, (hb.cell (World.block_lt_of_cell? _ _ g2)).trans g2⟩
                have HSM : Hid (∀ w' Dg cg, Nw W w' (r + 1) s (.slice (some ⟨be, oe, none⟩) (r + 1) ce) (.slice (some ⟨bl, ol, none⟩) (r + 1) cl) (.slice D2 s.done.length c2) V → Cells w' Dg ((s.nd j).log.length * 1) (Tx (s.nd j).log) → w'.cell? ⟨be, oe + j, none⟩ = some (.int .i64 ((s.nd j).ep : Int)) → w'.cell? ⟨bl, ol + j, none⟩ = some (.slice Dv (s.nd j).log.length cv) →
                    Calls Try.prog 13 #[.slice Dg (s.nd j).log.length cg, .slice Dv (s.nd j).log.length cv] w' fun e w'' => e = .returned (.bool true) ∧ Nw W w'' (r + 1) s (.slice (some ⟨be, oe, none⟩) (r + 1) ce) (.slice (some ⟨bl, ol, none⟩) (r + 1) cl) (.slice D2 s.done.length c2) V ∧ w''.cell? ⟨be, oe + j, none⟩ = some (.int .i64 ((s.nd j).ep : Int)) ∧ w''.cell? ⟨bl, ol + j, none⟩ = some (.slice Dv (s.nd j).log.length cv)) := fun w' Dg cg t hc g1 g2 => by
                  have hvs := t.t.vs j hjn
                  rw [HV.out] at hvs
                  refine (same_yes (f := fun i => tt (s.nd j).log i) hl24 hc (Cells.of_own hvs) (fun i _ => rfl) (fun i _ => rfl)).mono ?_
                  rintro e w3 ⟨rfl, hd⟩
                  exact ⟨rfl, t.drawn hd, hd.cell g1, hd.cell g2⟩
                clear z1 z2
                go_wp2_with fail
                trace_state
                go_region_held3 (fun w' => w'.cell? ⟨be, oe + j, none⟩ = some (.int .i64 ((s.nd j).ep : Int)) ∧ w'.cell? ⟨bl, ol + j, none⟩ = some (.slice Dv (s.nd j).log.length cv) ∧ Nw W w' (r + 1) s (.slice (some ⟨be, oe, none⟩) (r + 1) ce) (.slice (some ⟨bl, ol, none⟩) (r + 1) cl) (.slice D2 s.done.length c2) V)
                  (first
                    | exact ⟨by assumption, by assumption, by assumption⟩)
                  (first
                    | (go_at_call 20; refine (HEP.out _ (by assumption)).mono ?_; rintro e5 w5 ⟨rfl, rfl⟩)
                    | (go_at_call 21; refine (HLG.out _ (by assumption) (by assumption) (by assumption)).mono ?_; rintro e6 w6 ⟨Dg, cg, rfl, hc6, t6, g1, g2⟩)
                    | (go_at_call 13; refine (HSM.out _ _ _ (by assumption) (by assumption) (by assumption) (by assumption)).mono ?_; rintro e7 w7 ⟨rfl, t7, k1, k2⟩))
                all_goals
                  have HW7 := Lib.hid t7
                  clear t7 k1 k2 t6 g1 g2 hc6 A0 Z1 Z2
                  go_wp2
                  go_roundw
                  case rel => exact ⟨j + 1, by omega, by go_num, HW7⟩
                  case measure => simp [intOf]; omega
              · obtain rfl : j = r + 1 := by omega
                have hjn' : ¬ (((r + 1 : Nat) : Int) < (r : Int) + 1) := by omega
                go_wp2_with fail
                refine (comm_obj HW.out.t.obj hd24).mono ?_
                rintro e5 w5 ⟨v5, rfl, hv5, hb5⟩
                obtain ⟨D5, c5, rfl, _⟩ := own_slice hv5
                have HV5 := Lib.hid (Cells.of_own hv5)
                have HW5 := Lib.hid (HW.out.keep hb5)
                have HC5 := Lib.hid (Cells.of_own HW5.out.was)
                clear hv5 hb5
                go_wp2_with fail
                refine (same_yes hd24 HV5.out HC5.out (Str_pre (List.prefix_refl _)) (Str_pre (List.prefix_refl _))).mono ?_
                rintro e6 w6 ⟨rfl, hd6⟩
                have HW6 := Lib.hid (HW5.out.drawn hd6)
                clear hd6
                go_wp2
                go_roundw
                case rel => exact ⟨k + 1, s, by omega, by omega, by go_num, ⟨HW6.out.t.obj, HW6.out.t.below⟩, HL.out.mono (by omega)⟩
                case measure => simp [intOf] <;> omega
    · have hend : ¬ (k < m) ∨ (k < m ∧ ¬ (k < 40)) := by omega
      clear hkn
      rcases hend with hend | ⟨hend, h30⟩
      all_goals
        go_wp2_with fail
        refine (works51 _).mono ?_
        rintro e w9 ⟨rfl, hb9⟩
        have HBF := Lib.hid (Below.on HA.out.below hb9)
        clear hb9
        go_wp2
        go_ret
        exact ⟨rfl, HBF.out⟩
end Rp
theorem replicaErrors_walk (W : World) (x : Int) (hx : (Lit.int .u8 x).wf = true) {D : Option Addr} {m c : Nat} {R : Nat → Ac} (hm : m ≤ c) (hc : c ≤ maxLen) (hD : Cells W D (m * 4) (Four4 R)) (hs : ∀ i, i < m → (R i).t.size ≤ maxLen) :
    Calls Try.prog 9 #[.int .u8 x, .slice D m c] W fun e w' => e = .returned (.bool true) ∧ Below W.heap.size W w' := by
  obtain ⟨u, rfl, hu⟩ := Rp.u8_nat hx
  exact Rp.errors_u W hu hm hc hD hs
end Go.Proofs.Ytdbpbpnbcjbchaa
