/- The walks of update, Propose and Copy once more: where the committed texts lie. -/
import Derived.Test.YtdbpbpnbcjbchaaRepCopyOk
set_option linter.unusedVariables false
namespace Go.Proofs.Ytdbpbpnbcjbchaa
open Go.RowKit
namespace Rp
def UpdS (B : Nat) (w : World) (h n : Nat) (s : St) (lv : Nat → Value) (w0 : World) (cv : Value) : Prop := ∃ cv', Gp B w h n s lv cv' ∧ (cv' = cv ∨ ∀ k, cv'.ownBlock = some k → w0.heap.size ≤ k)
def ObjS (B : Nat) (w : World) (h n : Nat) (s : St) (w0 : World) (cv : Value) : Prop := ∃ lv cv', Gp B w h n s lv cv' ∧ (cv' = cv ∨ ∀ k, cv'.ownBlock = some k → w0.heap.size ≤ k)
set_option maxHeartbeats 4000000 in
theorem update_s {B : Nat} {w : World} {h n : Nat} {s : St} {lv : Nat → Value} {cv : Value} (c : Gp B w h n s lv cv) {i : Nat} (hi : i < n) :
    Calls Try.prog 32 #[.pointer (some ⟨h, 0, none⟩), .pointer (some ⟨h, 1 + i * 5, none⟩)] w fun e w' => e = .returned (.tuple #[]) ∧ UpdS B w' h n (upd n s i) lv w cv ∧ w.grownBy w' (some h) := by
  have hn7 := c.n7
  have hn1 := c.n1
  obtain ⟨_, _, _, _, _, g0, g6⟩ := c.at_ (i := i) (by omega)
  obtain ⟨_, _, p2, _, p4, _⟩ := c.at_ (i := i) (by omega)
  have hhw := c.blk.lt
  have HC := Lib.hid c
  clear c
  go_enter Try.func32, Try.ntmps32
  go_wp2
  go_step3
  go_wp2
  go_loopw [15] (fun j wr => ∃ k : Nat, k ≤ n ∧ j = .int .i64 k ∧ Hid (Arr wr w.heap.size 75 7 (Sm n s i k)) ∧ Below w.heap.size w wr) (fun j _ => n - (intOf j).toNat)
  case atStart => exact ⟨0, Nat.zero_le _, rfl, Blk.new w _ _, (Below.refl _ _).alloc (Nat.le_refl _) _⟩
  case round =>
    obtain ⟨k, hk, rfl, hA, hb⟩ := hrel
    have CR := HC.out.keep hb
    have HB := Lib.hid hb
    clear hb
    by_cases hkn : k < n
    · obtain ⟨_, _, r2, _, r4, _⟩ := CR.at_ (i := i) (by omega)
      obtain ⟨_, _, u2, _, u4, _⟩ := CR.at_ (i := k) (by omega)
      obtain ⟨a0, a1⟩ := hA.out.at_ (k := k) (by omega)
      by_cases hep : (s.nd k).ep = (s.nd i).ep
      · have HV := Lib.hid (show com (s.nd i).log (s.nd k).log = sm n s i k by unfold sm; rw [if_pos ⟨hkn, hep⟩])
        rw [hep] at u2
        obtain ⟨A, cp, hlv, hcp, hAc⟩ := CR.log (i := i) (by omega)
        obtain ⟨A', cp', hlv', hcp', hAc'⟩ := CR.log (i := k) (by omega)
        have hl := HC.out.l i (by omega)
        have hl' := HC.out.l k (by omega)
        have CC : Hid (∀ w' : World, Dn wr w' → Calls Try.prog 45 #[.slice A (s.nd i).log.length cp, .slice A' (s.nd k).log.length cp'] w' fun e w'' => e = .returned (.int .i64 ((sm n s i k : Nat) : Int)) ∧ Dn wr w'') := fun w' hd => by
          have hd0 := hd
          obtain ⟨q, rfl⟩ := hd
          refine (common_any (w := wr.drewN q) (c := cp) (c' := cp') hAc hAc' rfl rfl hl hl').mono ?_
          rintro e w2 ⟨rfl, h2⟩
          exact ⟨by rw [HV.out], hd0.on h2⟩
        rw [hlv] at r4
        rw [hlv'] at u4
        have HCR := Lib.hid CR
        clear CR hAc hAc' hlv hlv' hcp hcp' hl hl' hep
        obtain ⟨lf, hlf⟩ : ∃ q, q = (s.nd i).log.length := ⟨_, rfl⟩
        obtain ⟨lf', hlf'⟩ : ∃ q, q = (s.nd k).log.length := ⟨_, rfl⟩
        rw [← hlf] at r4 CC
        rw [← hlf'] at u4 CC
        clear hlf hlf'
        have hk7 : (k : Int) < 7 := by omega
        have hi7 : (i : Int) < 7 := by omega
        have hhn : h ≠ w.heap.size := by omega
        have HFIN : Hid (∀ w' : World, Dn wr w' → Arr (w'.setCell ⟨w.heap.size, k, none⟩ (.int .i64 ((sm n s i k : Nat) : Int))) w.heap.size 75 7 (Sm n s i (k + 1)) ∧ Below w.heap.size w (w'.setCell ⟨w.heap.size, k, none⟩ (.int .i64 ((sm n s i k : Nat) : Int)))) := fun w' hd => by
          obtain ⟨q, rfl⟩ := hd
          exact ⟨Arr.put (w := wr.drewN q) hA.out (Sm_put _ rfl), (below_drewN HB.out q).setCell (p := ⟨w.heap.size, k, none⟩) (Nat.le_refl _) _⟩
        go_wp2
        go_quiet (fail)
        go_wp2
        have D0 : Dn wr (wr.drewN nq).drew := (show Dn wr (wr.drewN nq) from ⟨nq, rfl⟩).on ⟨1, rfl⟩
        clear r2 u2
        go_region_held3 (fun w' => w'.cell? ⟨h, 1 + i * 5 + 4, none⟩ = some (.slice A lf cp) ∧ w'.cell? ⟨h, 1 + k * 5 + 4, none⟩ = some (.slice A' lf' cp'))
          (first
            | exact ⟨D0.cell r4, D0.cell u4⟩
            | exact ⟨D5.cell r4, D5.cell u4⟩
            | exact ⟨(World.cell?_setCell_other _ _ _ _ (by simp)).trans (D5.cell r4), (World.cell?_setCell_other _ _ _ _ (by simp)).trans (D5.cell u4)⟩)
          (first
            | (go_at_call 45; refine (CC.out _ (by first | assumption | exact D0)).mono ?_; rintro e w5 ⟨rfl, D5⟩; have b0 := D5.cell a0; have b1 := D5.frozen a1))
        all_goals
          obtain ⟨z1, z2⟩ := HFIN.out _ D5
          have Z1 := Lib.hid z1
          have Z2 := Lib.hid z2
          clear z1 z2 b0 b1
          go_wp2
          go_roundw
          case rel => exact ⟨k + 1, by omega, by go_num, Z1, Z2.out⟩
          case measure => simp [intOf]; omega
      · have HK := Lib.hid (Arr.congr hA.out (Sm_keep (show sm n s i k = 0 by unfold sm; rw [if_neg (fun x => hep x.2)])))
        have hne : (((s.nd k).ep : Int) == ((s.nd i).ep : Int)) = false := by simp; omega
        have hk7 : (k : Int) < 7 := by omega
        clear hep
        go_wp2
        go_quiet (fail)
        go_wp2
        go_roundw
        case rel => exact ⟨k + 1, by omega, by go_num, HK, below_drewN HB.out _⟩
        case measure => simp [intOf]; omega
    · obtain rfl : k = n := by omega
      clear CR
      have CW := HC.out.keep HB.out
      obtain ⟨_, _, r2, _, r4, _, r6⟩ := CW.at_ (i := i) (by omega)
      have hs1 := HB.out.size
      have hAE := Arr.congr hA.out (Sm_end (s := s) (i := i) hn7)
      obtain ⟨⟨a0, _⟩, ⟨a1, _⟩, ⟨a2, _⟩, ⟨a3, _⟩, ⟨a4, _⟩, ⟨a5, _⟩, ⟨a6, _⟩⟩ : _ ∧ _ ∧ _ ∧ _ ∧ _ ∧ _ ∧ _ := ⟨hAE.at_ (k := 0) (by omega), hAE.at_ (k := 1) (by omega), hAE.at_ (k := 2) (by omega), hAE.at_ (k := 3) (by omega), hAE.at_ (k := 4) (by omega), hAE.at_ (k := 5) (by omega), hAE.at_ (k := 6) (by omega)⟩
      obtain ⟨A, cp, hlv, hcp, hAc⟩ := CW.log (i := i) (by omega)
      obtain ⟨Ac, cc, hcv, hcc⟩ := own_slice CW.cow
      have hl := HC.out.l i (by omega)
      rw [hlv] at r4
      rw [hcv] at r6
      have HAC := Lib.hid hAc
      have HLV := Lib.hid hlv
      have HCW := Lib.hid CW
      have HT := Lib.hid (show upd k s i = if top k s i (s.nd i).log.length = 0 then s else ⟨s.nd, ((s.nd i).log.take (top k s i (s.nd i).log.length)).map Prod.snd⟩ from rfl)
      obtain ⟨L, hL⟩ : ∃ q, q = (s.nd i).log.length := ⟨_, rfl⟩
      obtain ⟨d, hd⟩ : ∃ q, q = s.done.length := ⟨_, rfl⟩
      rw [← hL] at r4 hcp hl HAC HT HLV
      rw [← hd] at r6
      have HL := Lib.hid hL
      have HD := Lib.hid hd
      have hi7 : (i : Int) < 7 := by omega
      clear hA hAE CW hAc hlv hcv hL hd
      obtain ⟨wo, rfl⟩ : ∃ wo : World, wo = wr := ⟨_, rfl⟩
      go_wp2
      go_step3
      go_wp2
      go_loopw [6, 7] (fun a b wq => ∃ m : Nat, m ≤ L ∧ a = .int .i64 0 ∧ b = .int .i64 m ∧ Hid (top k s i L = top k s i m) ∧ Dn wo wq) (fun _ b _ => (intOf b).toNat)
      case atStart => exact ⟨L, Nat.le_refl _, rfl, rfl, rfl, Dn.refl _⟩
      case round =>
        obtain ⟨m, hm, rfl, rfl, HTM, q, rfl⟩ := hrel
        by_cases hgt : d < m
        · obtain ⟨r, rfl⟩ : ∃ r, m = r + 1 := ⟨m - 1, by omega⟩
          obtain ⟨b, off, eA, hlt, hc⟩ := HAC.out (by omega)
          subst eA
          have c0 := (hc (r * 2) (by omega)).trans (by rw [(Ent_at _ _).1])
          have h6 : IntKind.i64.wrap (((r + 1 : Nat) : Int) - 1) = (r : Int) := by rw [show ((r + 1 : Nat) : Int) - 1 = (r : Int) by omega]; exact IntWalk.i64_in _ (by omega)
          clear hc
          by_cases he : ee (s.nd i).log r = (s.nd i).ep
          · have h7 : ((ee (s.nd i).log r : Int) != ((s.nd i).ep : Int)) = false := by simp; omega
            have HOK := Lib.hid (show okm k s i (r + 1) = decide (k < 2 * cnt (fun k' => decide (r + 1 ≤ sm k s i k')) 7) by unfold okm; rw [show r + 1 - 1 = r by omega, he]; simp)
            obtain ⟨P, hP⟩ : ∃ P : Nat → Bool, P = fun k' => decide (r + 1 ≤ sm k s i k') := ⟨_, rfl⟩
            have HP1 : Hid (∀ v, ¬ sm k s i v < r + 1 → P v = true) := fun v hv => by rw [hP]; simp; omega
            have HP0 : Hid (∀ v, sm k s i v < r + 1 → P v = false) := fun v hv => by rw [hP]; simp; omega
            rw [← hP] at HOK
            clear hP
            go_wp2
            go_quiet (fail)
            go_wp2
            have HCZ := Lib.hid (HCW.out.drewN (q + nq))
            have HAZ : Hid (Cells (wo.drewN (q + nq)) (some ⟨b, off, none⟩) (L * 2) (Ent (s.nd i).log)) := HAC.out
            have HBZ := Lib.hid (below_drewN HB.out (q + nq))
            have HDZ := Lib.hid (show Dn wo (wo.drewN (q + nq)) from ⟨q + nq, rfl⟩)
            generalize wo.drewN (q + nq) = wz at HCZ HAZ HBZ HDZ ⊢
            go_loopw [6, 8, 74] (fun n0 a b wq => ∃ v c : Nat, v ≤ 7 ∧ n0 = .int .i64 0 ∧ a = .int .i64 c ∧ b = .int .i64 v ∧ Hid (c = cnt P v) ∧ 2 * c ≤ k ∧ c ≤ 7 ∧ wq = wz) (fun _ _ b _ => 7 - (intOf b).toNat)
            case atStart => exact ⟨0, 0, Nat.zero_le _, rfl, rfl, rfl, rfl, Nat.zero_le _, Nat.zero_le _, rfl⟩
            case round =>
              obtain ⟨v, c, hv, rfl, rfl, rfl, HCC, h2c, hc7, hwq⟩ := hrel
              obtain rfl := hwq.symm
              obtain ⟨_, _, z2, _, z4, z0, z6⟩ := HCZ.out.at_ (i := i) (by omega)
              rw [HLV.out] at z4
              have z6f := (HCZ.out.blk.at_ (k := 36) (by omega)).2
              have hsz := HBZ.out.size
              by_cases hv7 : v < 7
              · have RI := fun w' : World => run_index7 w' (sm k s i) hv7
                by_cases hs : sm k s i v < r + 1
                · have hs' : ((sm k s i v : Nat) : Int) < ((r + 1 : Nat) : Int) := by omega
                  have HN := Lib.hid (HCC.out.trans (cnt_no P (HP0.out v hs)).symm)
                  go_wp2
                  go_roundw
                  case rel => exact ⟨v + 1, c, by omega, rfl, rfl, by go_num, HN, h2c, hc7, by first | rfl | trivial⟩
                  case measure => simp [intOf]; omega
                · have hs' : ¬ ((sm k s i v : Nat) : Int) < ((r + 1 : Nat) : Int) := by omega
                  have HN : Hid (c + 1 = cnt P (v + 1)) := by rw [cnt_up P (HP1.out v hs), ← HCC.out]; exact rfl
                  have hw1 : IntKind.i64.wrap ((c : Int) + 1) = (c : Int) + 1 := IntWalk.i64_in _ (by omega)
                  have hw2 : IntKind.i64.wrap (2 * ((c : Int) + 1)) = 2 * ((c : Int) + 1) := IntWalk.i64_in _ (by omega)
                  by_cases hx : k < 2 * (c + 1)
                  · have hx' : (k : Int) < 2 * ((c : Int) + 1) := by omega
                    have HF := Lib.hid (top_yes (n := k) (i := i) (show s.done.length < r + 1 by rw [← HD.out]; exact hgt) (by
                      rw [HOK.out]
                      have h1 := cnt_grow P (show v + 1 ≤ 7 by omega)
                      have h2 := HN.out
                      simp only [decide_eq_true_eq]; omega))
                    have hrl : r + 1 ≤ L := hm
                    have hrc : r + 1 ≤ cp := by omega
                    go_wp2_with fail
                    refine (texts_any (n := r + 1) (l := (s.nd i).log) (fun h0 => by
                      obtain ⟨b', off', e', hlt', hc'⟩ := HAZ.out (by omega)
                      exact ⟨b', off', e', hlt', fun j hj => hc' j (by omega)⟩) (by omega)).mono ?_
                    rintro e w4 ⟨v4, rfl, hv4, hb4⟩
                    obtain ⟨D4, c4, rfl, _⟩ := own_slice hv4
                    have HFZ := HCZ.out.keep hb4
                    have e36 := (HFZ.blk.at_ (k := 36) (by omega)).1
                    have f36 := (HFZ.blk.at_ (k := 36) (by omega)).2
                    obtain ⟨dd, hdd⟩ : ∃ dd, dd = ((s.nd i).log.take (r + 1)).map Prod.snd := ⟨_, rfl⟩
                    have hdl : dd.length = r + 1 := by rw [hdd, List.length_map, List.length_take, ← HL.out]; omega
                    have hv5 : w4.ownsRow B 9 1 (.slice D4 (r + 1) c4) dd.length (row (dd.length * 1) (Str dd)) := by
                      have ht := Tx_take (s.nd i).log (m := r + 1) (by rw [← HL.out]; omega)
                      rw [← hdd] at ht
                      rw [← ht, hdl]
                      exact own_base hv4 (by have := HC.out.hB; omega)
                    have HU := Lib.hid (show UpdS B (w4.setCell ⟨h, 36, none⟩ (.slice D4 (r + 1) c4)) h k (upd k s i) lv w cv by
                      rw [HT.out, HTM.out, HF.out, if_neg (by omega), ← hdd]
                      exact ⟨_, HFZ.fin hv5, .inr fun k hk => Nat.le_trans hsz (hv4.lt k hk).1⟩)
                    have HG := Lib.hid (only_set (only_of (HBZ.out.trans (hb4.mono hsz)) h) 36 (.slice D4 (r + 1) c4))
                    have hz4 := hb4.size
                    clear hv4 hb4 HFZ hdd hdl hv5 z2 z4 z0 z6
                    go_wp2
                    try rw [Exit.noGoto_normal]
                    go_end0
                    exact ⟨rfl, HU.out, HG.out⟩
                  · have hx' : ¬ (k : Int) < 2 * ((c : Int) + 1) := by omega
                    go_wp2
                    go_roundw
                    case rel => exact ⟨v + 1, c + 1, by omega, rfl, by go_num, by go_num, HN, by omega, by omega, by first | rfl | trivial⟩
                    case measure => simp [intOf]; omega
              · obtain rfl : v = 7 := by omega
                have HF := Lib.hid (top_no (n := k) (i := i) (show s.done.length < r + 1 by rw [← HD.out]; exact hgt) (by
                  rw [HOK.out]
                  have h2 := HCC.out
                  simp only [decide_eq_false_iff_not]; omega))
                go_wp2
                go_roundw
                case rel => exact ⟨r, by omega, rfl, by go_num, HTM.out.trans HF.out, HDZ.out⟩
                case measure => simp [intOf]
          · have h7 : ((ee (s.nd i).log r : Int) != ((s.nd i).ep : Int)) = true := by simp; omega
            have HN := Lib.hid (top_no (show s.done.length < r + 1 by rw [← HD.out]; exact hgt) (show okm k s i (r + 1) = false by unfold okm; rw [show r + 1 - 1 = r by omega]; simp [he]))
            clear he
            go_wp2
            go_quiet (fail)
            go_wp2
            go_roundw
            case rel => exact ⟨r, by omega, rfl, by go_num, HTM.out.trans HN.out, ⟨q + nq, rfl⟩⟩
            case measure => simp [intOf]
        · have HN := Lib.hid (top_out (n := k) (i := i) (show ¬ s.done.length < m by rw [← HD.out]; exact hgt))
          have HU := Lib.hid (show UpdS B (wo.drewN q) h k (upd k s i) lv w cv by
            rw [HT.out, if_pos (by rw [HTM.out, HN.out])]
            exact ⟨_, HCW.out.drewN q, .inl rfl⟩)
          have HG := Lib.hid (only_of (below_drewN HB.out q) h)
          go_wp2
          rw [Exit.noGoto_normal]
          go_end0
          exact ⟨rfl, HU.out, HG.out⟩
set_option maxHeartbeats 4000000 in
set_option maxRecDepth 100000 in
theorem propose_s {B : Nat} {w : World} {h n : Nat} {s : St} {lv : Nat → Value} {cv : Value} (c : Gp B w h n s lv cv) {i : Nat} {t : ByteArray} (hi : i < n) (hl : ldr (s.nd i) = true) (ht : t.size ≤ 20) (hL : (s.nd i).log.length < 1024) :
    Calls Try.prog 12 #[.pointer (some ⟨h, 0, none⟩), .int .i64 (i : Int), .string t] w fun e w' => e = .returned (.tuple #[.int .i64 (((s.nd i).log.length + 1 : Nat) : Int), .int .i64 0]) ∧ Did B w w' h n (upd n (pushed s i t) i) ∧ ObjS B w' h n (upd n (pushed s i t) i) w cv := by
  obtain ⟨i0, hq, hz0, hz1, hz2⟩ := info_parts Try.infoEntry
  have hn7 := c.n7
  have hi7 : i < 7 := by omega
  have HC := Lib.hid c
  have HLD := Lib.hid hl
  clear c hl
  go_enter Try.func12, Try.ntmps12
  go_wp2_with fail
  refine (find_ok HC.out rfl hi).mono ?_
  rintro e w1 ⟨rfl, rfl⟩
  go_wp2_with fail
  refine (leads_any HC.out hi7).mono ?_
  rintro e w1 ⟨rfl, k1, rfl⟩
  rw [HLD.out]
  have HCZ := Lib.hid (HC.out.drewN k1)
  have HDZ := Lib.hid (show Dn w (w.drewN k1) from ⟨k1, rfl⟩)
  have HWZ := Lib.hid (below_drewN (Below.refl w.heap.size w) k1)
  generalize w.drewN k1 = wz at HCZ HDZ HWZ ⊢
  obtain ⟨_, _, p2, _, p4, _, _⟩ := HCZ.out.at_ hi7
  obtain ⟨A, cp, hlv, hcp, _⟩ := HCZ.out.log hi7
  rw [hlv] at p4
  have HO := Lib.hid (own_keep (HCZ.out.own i hi7) (below_drewN (Below.refl wz.heap.size wz) 1))
  obtain ⟨L, hLL⟩ : ∃ L, L = (s.nd i).log.length := ⟨_, rfl⟩
  rw [← hLL] at p4 hcp hL HO hlv
  have HLV := Lib.hid hlv
  rw [hlv] at HO
  have HLL := Lib.hid hLL
  have hhz := HCZ.out.blk.lt
  have hne := (own_ne HCZ.out).1 i hi7
  rw [hlv] at hne
  have HNE := Lib.hid hne
  have fz : wz.frozen? ⟨h, 1 + i * 5 + 4, none⟩ = false := (HCZ.out.blk.at_ (k := 1 + i * 5 + 4) (by omega)).2
  have ht2 : (t.size : Int) ≤ 32768 := by omega
  have hL2 : (L : Int) < 1024 := by omega
  have hBz : B ≤ wz.heap.size := by have := HCZ.out.hB; omega
  clear hlv hLL hne
  go_wp2
  go_region_law (first
    | (refine step_append_lies _ (by rfl) _ _ _ (by rfl) B 62 i0 _ 2 24 Try.underlying50 hq hz0 hz1 hz2 rfl (by omega) _ L (row (L * 2) (Ent (s.nd i).log)) (by rfl) (HO.out.alloc _)
        ⟨wz.heap.size, 0, none⟩ 1 1 [.int .i64 ((s.nd i).ep : Int), .string t] (by rfl) (by rfl) (fun j u hu => new_cell rfl (by simpa using hu)) (by simp [Value.oneCell'])
        (by omega) (by unfold maxLen; omega) (by omega) (by simp; omega) (wz.heap.size + 1) (by simp) ?_; intro g5 cap5 w5 hown5 hgrow5 hat5 hlt5; obtain ⟨y1, y2⟩ := HCZ.out.far hi7 hgrow5 HNE.out; rw [HLV.out] at y1))
  all_goals
    have hown6 : w5.ownsRow B 62 2 (.slice (some ⟨g5, 0, none⟩) (L + 1) cap5) ((s.nd i).log ++ [((s.nd i).ep, t)]).length (row (((s.nd i).log ++ [((s.nd i).ep, t)]).length * 2) (Ent ((s.nd i).log ++ [((s.nd i).ep, t)]))) := by
      rw [Ent_push, List.length_append, List.length_singleton, ← HLL.out]
      exact hown5
    have hgr : wz.grownBy w5 (lv i).ownBlock := by
      rw [HLV.out]
      first
        | exact grown_pre (w1 := (wz.alloc _).drew) (below_drewN ((Below.refl wz.heap.size wz).alloc (Nat.le_refl _) _) 1) hgrow5
        | exact grown_pre (w1 := wz.drew.alloc _) ((below_drewN (Below.refl wz.heap.size wz) 1).alloc (Nat.le_refl _) _) hgrow5
    have hvb : (Value.slice (some ⟨g5, 0, none⟩) (L + 1) cap5).ownBlock = none ∨ (Value.slice (some ⟨g5, 0, none⟩) (L + 1) cap5).ownBlock = (lv i).ownBlock ∨ ∃ g, (Value.slice (some ⟨g5, 0, none⟩) (L + 1) cap5).ownBlock = some g ∧ wz.heap.size ≤ g := by
      rw [HLV.out]
      rcases hat5 with e | e
      · exact .inr (.inl e.symm)
      · exact .inr (.inr ⟨g5, rfl, by omega⟩)
    have hl7 : ((s.nd i).log ++ [((s.nd i).ep, t)]).length ≤ 1024 := by rw [List.length_append, List.length_singleton, ← HLL.out]; omega
    have HD1 := Lib.hid (HCZ.out.told hi hgr hown6 hvb hl7)
    have HG1 := Lib.hid (HCZ.out.relog hi hgr hown6 hvb hl7)
    have HPU := Lib.hid (show pushed s i t = setN s i { s.nd i with log := (s.nd i).log ++ [((s.nd i).ep, t)] } from rfl)
    rw [← HPU.out] at HD1 HG1
    clear hown5 hgrow5 hat5 hlt5 y1 y2 hown6 hgr hvb hl7
    go_wp2_with fail
    refine (update_s HG1.out hi).mono ?_
    rintro e w6 ⟨rfl, ⟨cv6, hc6, hf6⟩, hg6⟩
    have HD6 := Lib.hid (HD1.out.trans (HG1.out.did hc6 hg6))
    obtain ⟨_, _, _, _, q4, _⟩ := hc6.at_ hi7
    have hq4 : setL lv i (.slice (some ⟨g5, 0, none⟩) (L + 1) cap5) i = .slice (some ⟨g5, 0, none⟩) (L + 1) cap5 := if_pos rfl
    rw [hq4] at q4
    have HDF := Lib.hid ((HCZ.out.drawn (Dn.refl _)).trans HD6.out)
    have HDW := Lib.hid ((HC.out.drawn HDZ.out).trans HD6.out)
    have HOS : Hid (ObjS B w6 h n (upd n (pushed s i t) i) w cv) := ⟨_, _, hc6, hf6.imp id fun q k hk => Nat.le_trans (Nat.le_trans HWZ.out.size HD1.out.below.size) (q k hk)⟩
    clear hc6 hf6 hg6 hq4
    go_wp2
    go_ret2
    exact ⟨by rw [← HLL.out]; rfl, HDW.out, HOS.out⟩
set_option maxHeartbeats 4000000 in
theorem copy_s {B : Nat} {w : World} {h n : Nat} {s : St} {lv : Nat → Value} {cv : Value} (c : Gp B w h n s lv cv) {i j : Nat} (hi : i < n) (hj : j < n) (hij : i ≠ j) (hy : cpe s i j = 0) :
    Calls Try.prog 15 #[.pointer (some ⟨h, 0, none⟩), .int .i64 (i : Int), .int .i64 (j : Int)] w fun e w' => e = .returned (.int .i64 0) ∧ Did B w w' h n (upd n (copied s i j) i) ∧ ObjS B w' h n (upd n (copied s i j) i) w cv := by
  have hn7 := c.n7
  have hi7 : i < 7 := by omega
  have hj7 : j < 7 := by omega
  obtain ⟨p0, p1, p2, _⟩ := c.at_ hi7
  obtain ⟨q0, q1, q2, _⟩ := c.at_ hj7
  obtain ⟨a0, b0, hl, a1, b1, he⟩ : (s.nd i).down = false ∧ (s.nd j).down = false ∧ ldr (s.nd i) = true ∧ (s.nd i).cut = false ∧ (s.nd j).cut = false ∧ ¬ (s.nd i).ep < (s.nd j).ep := by
    unfold cpe at hy
    split at hy
    · cases hy
    · rename_i h1
      split at hy
      · cases hy
      · rename_i h2
        split at hy
        · cases hy
        · rename_i h3
          refine ⟨?_, ?_, ?_, ?_, ?_, h3⟩
          · cases e : (s.nd i).down with
            | false => rfl
            | true => exact (h1 (.inl e)).elim
          · cases e : (s.nd j).down with
            | false => rfl
            | true => exact (h1 (.inr (.inl e))).elim
          · cases e : ldr (s.nd i) with
            | true => rfl
            | false => exact (h1 (.inr (.inr e))).elim
          · cases e : (s.nd i).cut with
            | false => rfl
            | true => exact (h2 (.inl e)).elim
          · cases e : (s.nd j).cut with
            | false => rfl
            | true => exact (h2 (.inr e)).elim
  rw [a0] at p0
  rw [a1] at p1
  rw [b0] at q0
  rw [b1] at q1
  have he2 : decide (((s.nd i).ep : Int) < ((s.nd j).ep : Int)) = false := by simp; omega
  have hpq : ∀ w' : World, (binOp .neq 56 (.pointer (some ⟨h, 1 + i * 5, none⟩)) (.pointer (some ⟨h, 1 + j * 5, none⟩))).run Try.prog w' = .ok (.bool true) w' := fun w' => by
    rw [run_neq_ptr w' _ _ Try.underlying56 sizeNode, decide_eq_false (by omega)]; rfl
  have he3 : ((s.nd j).ep : Int) ≤ ((s.nd i).ep : Int) := by omega
  have CL := leads_any c hi7
  rw [hl] at CL
  have HL := Lib.hid CL
  have HC := Lib.hid c
  have HIJ := Lib.hid hij
  clear c hl CL hy a0 a1 b0 b1 he hij
  go_enter Try.func15, Try.ntmps15
  go_wp2_with fail
  refine (find_ok HC.out rfl hi).mono ?_
  rintro e w1 ⟨rfl, rfl⟩
  go_wp2_with fail
  refine (find_ok HC.out rfl hj).mono ?_
  rintro e w1 ⟨rfl, rfl⟩
  go_wp2_with fail
  refine HL.out.mono ?_
  rintro e w1 ⟨rfl, k1, rfl⟩
  go_wp2
  go_quiet (fail)
  have HDZ := Lib.hid (show Dn w (w.drewN (k1 + nq)) from ⟨k1 + nq, rfl⟩)
  have HCZ := Lib.hid (HC.out.drewN (k1 + nq))
  try rw [show (w.drewN k1).drewN nq = w.drewN (k1 + nq) by simp [World.drewN, Nat.add_assoc]]
  have HWZ := Lib.hid (below_drewN (Below.refl w.heap.size w) (k1 + nq))
  generalize w.drewN (k1 + nq) = wz at HDZ HCZ HWZ ⊢
  clear p0 p1 p2 q0 q1 q2
  obtain ⟨_, _, p2, _, p4, _⟩ := HCZ.out.at_ hi7
  obtain ⟨A, cp, hlv, hcp, hA⟩ := HCZ.out.log hi7
  rw [hlv] at p4
  have HA := Lib.hid hA
  have hL := HCZ.out.l i hi7
  have hBz : B ≤ wz.heap.size := by have := HCZ.out.hB; have := HCZ.out.blk.lt; omega
  clear hlv hA
  go_wp2_with fail
  refine (copy_any HA.out (Ent_one _) hL).mono ?_
  rintro e w2 ⟨v2, rfl, hv2, hb2⟩
  obtain ⟨D2, c2, rfl, _⟩ := own_slice hv2
  have hgr : wz.grownBy w2 (lv j).ownBlock := ⟨hb2.os, hb2.tape, hb2.output, hb2.size, fun k hk _ => hb2.block k hk⟩
  have hvb : (Value.slice D2 (s.nd i).log.length c2).ownBlock = none ∨ (Value.slice D2 (s.nd i).log.length c2).ownBlock = (lv j).ownBlock ∨ ∃ g, (Value.slice D2 (s.nd i).log.length c2).ownBlock = some g ∧ wz.heap.size ≤ g := by
    cases e : (Value.slice D2 (s.nd i).log.length c2).ownBlock with
    | none => exact .inl rfl
    | some g => exact .inr (.inr ⟨g, rfl, (hv2.lt g e).1⟩)
  have HC2 := HCZ.out.keep hb2
  obtain ⟨_, _, r2, _, r4, _⟩ := HC2.at_ hj7
  obtain ⟨_, _, t2, _⟩ := HC2.at_ hi7
  have f4 := (HC2.blk.at_ (k := 1 + j * 5 + 4) (by omega)).2
  have f2 := (HC2.blk.at_ (k := 1 + j * 5 + 2) (by omega)).2
  have HR := Lib.hid (HCZ.out.relog hj hgr (own_base hv2 hBz) hvb hL)
  have HT := Lib.hid (HCZ.out.told hj hgr (own_base hv2 hBz) hvb hL)
  have HP := Lib.hid (HR.out.put (i := j) (k := 2) (u := .int .i64 ((s.nd i).ep : Int)) (d := ⟨(s.nd j).down, (s.nd j).cut, (s.nd i).ep, (s.nd j).led, (s.nd i).log⟩) hj7 (by rw [setN_at]) ⟨(HC.out.e i hi7).1, (HC.out.e j hj7).2⟩
    (gcell_set n _ _ cv hj7 (by omega) (by rw [setN_at]; simp) (by rw [setN_at]; simp) (by simp) (by rw [setN_at]; simp)))
  have HE := Lib.hid (show copied s i j = setN s j ⟨(s.nd j).down, (s.nd j).cut, (s.nd i).ep, (s.nd j).led, (s.nd i).log⟩ from if_neg HIJ.out)
  rw [setN_two, ← HE.out] at HP
  have HD2 := Lib.hid (HT.out.trans (HR.out.did HP.out (only_set (only_refl _ h) _ _)))
  clear hv2 hb2 hgr hvb HC2
  go_wp2_with fail
  refine (update_s HP.out hi).mono ?_
  rintro e w6 ⟨rfl, ⟨cv6, hc6, hf6⟩, hg6⟩
  have HD6 := Lib.hid (((HC.out.drawn HDZ.out).trans HD2.out).trans (HP.out.did hc6 hg6))
  have HOS : Hid (ObjS B w6 h n (upd n (copied s i j) i) w cv) := ⟨_, _, hc6, hf6.imp id fun q k hk => Nat.le_trans (Nat.le_trans HWZ.out.size HD2.out.below.size) (q k hk)⟩
  clear hc6 hf6 hg6
  go_wp2
  go_ret
  exact ⟨rfl, HD6.out, HOS.out⟩
end Rp
end Go.Proofs.Ytdbpbpnbcjbchaa
