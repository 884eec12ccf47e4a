/- The walk of Lead where it makes a leader. -/
import Derived.Test.YtdbpbpnbcjbchaaRepLead
set_option linter.unusedVariables false
namespace Go.Proofs.Ytdbpbpnbcjbchaa
open Go.RowKit
namespace Rp
/-- The nodes that are reached, among the first k, have the epoch e. -/
def epd (s : St) (e k : Nat) : St := ⟨fun i => if i < k ∧ up (s.nd i) = true then { s.nd i with ep := e } else s.nd i, s.done⟩
theorem epd_at (s : St) (e k i : Nat) : (epd s e k).nd i = if i < k ∧ up (s.nd i) = true then { s.nd i with ep := e } else s.nd i := rfl
theorem epd_up (s : St) (e k i : Nat) : up ((epd s e k).nd i) = up (s.nd i) := by rw [epd_at]; split <;> rfl
theorem epd_log (s : St) (e k i : Nat) : ((epd s e k).nd i).log = (s.nd i).log := by rw [epd_at]; split <;> rfl
theorem epd_zero (s : St) (e : Nat) : epd s e 0 = s := by
  unfold epd
  cases s with
  | mk nd d => simp
theorem epd_yes {s : St} {e k : Nat} (h : up (s.nd k) = true) : setN (epd s e k) k { (epd s e k).nd k with ep := e } = epd s e (k + 1) := by
  unfold setN
  simp only [epd, St.mk.injEq, and_true]
  funext i
  by_cases hi : i = k
  · subst hi
    rw [if_pos rfl, if_neg (by omega), if_pos ⟨by omega, h⟩]
  · rw [if_neg hi]
    by_cases hu : i < k ∧ up (s.nd i) = true
    · rw [if_pos hu, if_pos ⟨by omega, hu.2⟩]
    · rw [if_neg hu, if_neg (fun x => hu ⟨by omega, x.2⟩)]
theorem epd_no {s : St} {e k : Nat} (h : up (s.nd k) = false) : epd s e k = epd s e (k + 1) := by
  simp only [epd, St.mk.injEq, and_true]
  funext i
  by_cases hi : i = k
  · subst hi
    rw [if_neg (by omega), if_neg (fun x => by rw [h] at x; exact Bool.noConfusion x.2)]
  · by_cases hu : i < k ∧ up (s.nd i) = true
    · rw [if_pos hu, if_pos ⟨by omega, hu.2⟩]
    · rw [if_neg hu, if_neg (fun x => hu ⟨by omega, x.2⟩)]
/-- Node i leads the epoch e; the best log is that of node b. -/
def ledS (s : St) (n i e b : Nat) : St := setN (setN (epd s e n) i { (epd s e n).nd i with led := e }) i { (setN (epd s e n) i { (epd s e n).nd i with led := e }).nd i with log := (s.nd b).log }
set_option maxHeartbeats 8000000 in
theorem lead_ok {B : Nat} {w : World} {h n : Nat} {s : St} {lv : Nat → Value} {cv : Value} (c : Gp B w h n s lv cv) {i bb : Nat} (hi : i < n) (a0 : (s.nd i).down = false) (a1 : (s.nd i).cut = false) (hq : n < 2 * rcnt s n) (hbb : bst s n = some bb) (hgg : gr s n + 1 ≤ 1000000) :
    Calls Try.prog 11 #[.pointer (some ⟨h, 0, none⟩), .int .i64 (i : Int)] w fun e w' => e = .returned (.int .i64 0) ∧ Did B w w' h n (ledS s n i (gr s n + 1) bb) := by
  have hn7 := c.n7
  obtain ⟨p0, p1, _⟩ := c.at_ (i := i) (by omega)
  rw [a0] at p0
  rw [a1] at p1
  obtain ⟨_, _, _, _, _, g0, _⟩ := c.at_ (i := 0) (by omega)
  have HC := Lib.hid c
  clear c
  go_enter Try.func11, Try.ntmps11
  go_wp2_with fail
  refine (find_ok HC.out rfl hi).mono ?_
  rintro e w1 ⟨rfl, rfl⟩
  go_wp2
  go_loopw [7, 8, 9, 35] (fun a b d j wr => ∃ k r g : Nat, ∃ bo : Option Nat, k ≤ n ∧ a = .int .i64 r ∧ b = .int .i64 g ∧ d = bval bo ∧ j = .int .i64 k ∧ Hid (r = rcnt s k) ∧ Hid (g = gr s k) ∧ Hid (bo = bst s k) ∧ Hid (Dn w wr)) (fun _ _ _ j _ => n - (intOf j).toNat)
  case atStart => exact ⟨0, 0, 0, none, Nat.zero_le _, rfl, rfl, rfl, rfl, rfl, rfl, rfl, Dn.refl _⟩
  case round =>
    obtain ⟨k, r, g, bo, hk, rfl, rfl, rfl, rfl, HR, HG, HBO, HD⟩ := hrel
    have hrk : r ≤ 7 := by rw [HR.out]; exact Nat.le_trans (cnt_le _ _) (by omega)
    obtain ⟨q, hwr⟩ := HD.out
    have HCR : Hid (Gp B wr h n s lv cv) := by rw [hwr]; exact HC.out.drewN q
    clear hwr
    obtain ⟨_, _, _, _, _, g0, _⟩ := HCR.out.at_ (i := 0) (by omega)
    by_cases hkn : k < n
    · have hk7 : (k : Int) < 7 := by omega
      have CR := reach_any HCR.out (i := k) (by omega)
      obtain ⟨_, _, k2, _⟩ := HCR.out.at_ (i := k) (by omega)
      have he6 := (HCR.out.e k (by omega)).1
      cases hu : up (s.nd k) with
      | false =>
        rw [hu] at CR
        have HCAL := Lib.hid CR
        have H1 : Hid (r = rcnt s (k + 1)) := by rw [HR.out]; exact (cnt_no _ hu).symm
        have H2 : Hid (g = gr s (k + 1)) := by rw [HG.out]; simp only [gr, hu, Bool.false_eq_true, if_false]; first | exact rfl | exact trivial
        have H3 : Hid (bo = bst s (k + 1)) := by rw [HBO.out]; simp only [bst, hu, Bool.false_eq_true, if_false]; first | exact rfl | exact trivial
        clear CR hu
        go_wp2_with fail
        refine HCAL.out.mono ?_
        rintro e w2 ⟨rfl, rfl⟩
        go_wp2
        go_roundw
        case rel => exact ⟨k + 1, r, g, bo, by omega, rfl, rfl, rfl, by go_num, H1, H2, H3, HD⟩
        case measure => simp [intOf]; omega
      | true =>
        rw [hu] at CR
        have HCAL := Lib.hid CR
        have hw1 : IntKind.i64.wrap ((r : Int) + 1) = (r : Int) + 1 := IntWalk.i64_in _ (by omega)
        have H1 : Hid (r + 1 = rcnt s (k + 1)) := by rw [HR.out]; exact (cnt_up _ hu).symm
        have HU := Lib.hid hu
        clear CR hu
        by_cases hgt : g < (s.nd k).ep
        · have H2 : Hid ((s.nd k).ep = gr s (k + 1)) := by
            have h1 := HG.out
            have h2 : gr s k < (s.nd k).ep := by omega
            simp only [gr, HU.out, if_true, h2]; first | exact rfl | exact trivial
          have hgt1 : ((g : Int) < ((s.nd k).ep : Int)) := by omega
          have hgt2 : ((((s.nd k).ep : Int)) < (g : Int)) = False := eq_false (by omega)
          cases bo with
          | none =>
            have H3 : Hid (some k = bst s (k + 1)) := by
              simp only [bst, HU.out, if_true]; rw [← HBO.out]; first | exact rfl | exact trivial
            unfold bval
            go_wp2_with fail
            refine HCAL.out.mono ?_
            rintro e w2 ⟨rfl, rfl⟩
            go_wp2
            go_roundw
            case rel => exact ⟨k + 1, r + 1, ((s.nd k).ep), some k, by omega, by go_num, by go_num, rfl, by go_num, H1, H2, H3, HD⟩
            case measure => simp [intOf]; omega
          | some b =>
            have hbl := (bst_lt s k b HBO.out.symm).1
            have hb7 : (b : Int) < 7 := by omega
            have CB := better_any HCR.out (i := k) (j := b) (by omega) (by omega)
            have hb0 : ((b : Int) < 0) = False := eq_false (by omega)
            cases hbt : bet (s.nd k).log (s.nd b).log with
            | true =>
              rw [hbt] at CB
              have HCB := Lib.hid CB
              have H3 : Hid (some k = bst s (k + 1)) := by
                simp only [bst, HU.out, if_true]; rw [← HBO.out]; simp only [hbt, if_true]; first | exact rfl | exact trivial
              clear CB hbt
              unfold bval
              go_wp2_with fail
              refine HCAL.out.mono ?_
              rintro e w2 ⟨rfl, rfl⟩
              go_wp2_with fail
              refine HCB.out.mono ?_
              rintro e w2 ⟨rfl, hd2⟩
              have HD2 := Lib.hid (HD.out.on hd2)
              clear hd2
              go_wp2
              go_roundw
              case rel => exact ⟨k + 1, r + 1, ((s.nd k).ep), some k, by omega, by go_num, by go_num, rfl, by go_num, H1, H2, H3, HD2⟩
              case measure => simp [intOf]; omega
            | false =>
              rw [hbt] at CB
              have HCB := Lib.hid CB
              have H3 : Hid (some b = bst s (k + 1)) := by
                simp only [bst, HU.out, if_true]; rw [← HBO.out]; simp only [hbt, Bool.false_eq_true, if_false]; first | exact rfl | exact trivial
              clear CB hbt
              unfold bval
              go_wp2_with fail
              refine HCAL.out.mono ?_
              rintro e w2 ⟨rfl, rfl⟩
              go_wp2_with fail
              refine HCB.out.mono ?_
              rintro e w2 ⟨rfl, hd2⟩
              have HD2 := Lib.hid (HD.out.on hd2)
              clear hd2
              go_wp2
              go_roundw
              case rel => exact ⟨k + 1, r + 1, ((s.nd k).ep), some b, by omega, by go_num, by go_num, rfl, by go_num, H1, H2, H3, HD2⟩
              case measure => simp [intOf]; omega
        · have H2 : Hid (g = gr s (k + 1)) := by
            have h1 := HG.out
            have h2 : ¬ gr s k < (s.nd k).ep := by omega
            simp only [gr, HU.out, if_true, h2, if_false]; exact h1
          have hgt1 : ((g : Int) < ((s.nd k).ep : Int)) = False := eq_false (by omega)
          cases bo with
          | none =>
            have H3 : Hid (some k = bst s (k + 1)) := by
              simp only [bst, HU.out, if_true]; rw [← HBO.out]; first | exact rfl | exact trivial
            unfold bval
            go_wp2_with fail
            refine HCAL.out.mono ?_
            rintro e w2 ⟨rfl, rfl⟩
            go_wp2
            go_roundw
            case rel => exact ⟨k + 1, r + 1, g, some k, by omega, by go_num, by go_num, rfl, by go_num, H1, H2, H3, HD⟩
            case measure => simp [intOf]; omega
          | some b =>
            have hbl := (bst_lt s k b HBO.out.symm).1
            have hb7 : (b : Int) < 7 := by omega
            have CB := better_any HCR.out (i := k) (j := b) (by omega) (by omega)
            have hb0 : ((b : Int) < 0) = False := eq_false (by omega)
            cases hbt : bet (s.nd k).log (s.nd b).log with
            | true =>
              rw [hbt] at CB
              have HCB := Lib.hid CB
              have H3 : Hid (some k = bst s (k + 1)) := by
                simp only [bst, HU.out, if_true]; rw [← HBO.out]; simp only [hbt, if_true]; first | exact rfl | exact trivial
              clear CB hbt
              unfold bval
              go_wp2_with fail
              refine HCAL.out.mono ?_
              rintro e w2 ⟨rfl, rfl⟩
              go_wp2_with fail
              refine HCB.out.mono ?_
              rintro e w2 ⟨rfl, hd2⟩
              have HD2 := Lib.hid (HD.out.on hd2)
              clear hd2
              go_wp2
              go_roundw
              case rel => exact ⟨k + 1, r + 1, g, some k, by omega, by go_num, by go_num, rfl, by go_num, H1, H2, H3, HD2⟩
              case measure => simp [intOf]; omega
            | false =>
              rw [hbt] at CB
              have HCB := Lib.hid CB
              have H3 : Hid (some b = bst s (k + 1)) := by
                simp only [bst, HU.out, if_true]; rw [← HBO.out]; simp only [hbt, Bool.false_eq_true, if_false]; first | exact rfl | exact trivial
              clear CB hbt
              unfold bval
              go_wp2_with fail
              refine HCAL.out.mono ?_
              rintro e w2 ⟨rfl, rfl⟩
              go_wp2_with fail
              refine HCB.out.mono ?_
              rintro e w2 ⟨rfl, hd2⟩
              have HD2 := Lib.hid (HD.out.on hd2)
              clear hd2
              go_wp2
              go_roundw
              case rel => exact ⟨k + 1, r + 1, g, some b, by omega, by go_num, by go_num, rfl, by go_num, H1, H2, H3, HD2⟩
              case measure => simp [intOf]; omega
    · obtain rfl : k = n := by omega
      have hlt : ¬ 2 * r ≤ k := by rw [HR.out]; omega
      have hw2 : IntKind.i64.wrap (2 * (r : Int)) = 2 * (r : Int) := IntWalk.i64_in _ (by omega)
      have HB2 : Hid (bo = some bb) := by rw [HBO.out]; exact hbb
      have hb2 := HB2.out
      subst hb2
      have hbl := (bst_lt s k bb hbb).1
      have HG2 := Lib.hid (show gr s k + 1 = g + 1 by rw [HG.out])
      have hg6 : g + 1 ≤ 1000000 := by rw [HG.out]; exact hgg
      have HDID := Lib.hid (HC.out.drawn HD.out)
      have HBB := Lib.hid hbb
      have hw3 : IntKind.i64.wrap ((g : Int) + 1) = (g : Int) + 1 := IntWalk.i64_in _ (by omega)
      obtain ⟨wo, rfl⟩ : ∃ wo : World, wo = wr := ⟨_, rfl⟩
      clear hbb hgg hq
      unfold bval
      go_wp2
      go_loopw [78] (fun j wq => ∃ m : Nat, m ≤ k ∧ j = .int .i64 m ∧ Hid (Gp B wq h k (epd s (g + 1) m) lv cv) ∧ Hid (Did B wo wq h k (epd s (g + 1) m))) (fun j _ => k - (intOf j).toNat)
      case atStart => exact ⟨0, Nat.zero_le _, rfl, by rw [epd_zero]; exact HCR, by rw [epd_zero]; exact Did.refl ⟨_, _, HCR.out⟩⟩
      case round =>
        obtain ⟨m, hm, rfl, HCM, HDM⟩ := hrel
        by_cases hmn : m < k
        · have hm7 : (m : Int) < 7 := by omega
          have CR := reach_any HCM.out (i := m) (by omega)
          rw [epd_up] at CR
          obtain ⟨_, _, k2, _⟩ := HCM.out.at_ (i := m) (by omega)
          have f2 := (HCM.out.blk.at_ (k := 1 + m * 5 + 2) (by omega)).2
          cases hu : up (s.nd m) with
          | false =>
            rw [hu] at CR
            have HCAL := Lib.hid CR
            have HE := Lib.hid (epd_no (e := g + 1) hu)
            clear CR hu
            go_wp2_with fail
            refine HCAL.out.mono ?_
            rintro e w2 ⟨rfl, rfl⟩
            go_wp2
            go_roundw
            case rel => exact ⟨m + 1, by omega, by go_num, by rw [← HE.out]; exact HCM, by rw [← HE.out]; exact HDM⟩
            case measure => simp [intOf]; omega
          | true =>
            rw [hu] at CR
            have HCAL := Lib.hid CR
            have hp := HCM.out.put (i := m) (k := 2) (u := .int .i64 ((g : Int) + 1)) (d := { (epd s (g + 1) m).nd m with ep := g + 1 }) (by omega) rfl ⟨hg6, (HCM.out.e m (by omega)).2⟩ (gcell_set k _ lv cv (by omega) (by omega) (by simp) (by simp) (by simp) (by simp))
            rw [epd_yes hu] at hp
            have HP := Lib.hid hp
            have HD2 := Lib.hid (HDM.out.trans (HCM.out.did hp (only_set (only_refl _ h) _ _)))
            clear CR hu hp
            go_wp2_with fail
            refine HCAL.out.mono ?_
            rintro e w2 ⟨rfl, rfl⟩
            go_wp2
            go_roundw
            case rel => exact ⟨m + 1, by omega, by go_num, HP, HD2⟩
            case measure => simp [intOf]; omega
        · obtain rfl : m = k := by omega
          have hi7 : i < 7 := by omega
          have hbi7 : (bb : Int) < 7 := by omega
          obtain ⟨_, _, _, z3, _⟩ := HCM.out.at_ hi7
          have f3 := (HCM.out.blk.at_ (k := 1 + i * 5 + 3) (by omega)).2
          have hp := HCM.out.put (i := i) (k := 3) (u := .int .i64 ((g : Int) + 1)) (d := { (epd s (g + 1) m).nd i with led := g + 1 }) hi7 rfl ⟨(HCM.out.e i hi7).1, hg6⟩ (gcell_set m _ lv cv hi7 (by omega) (by simp) (by simp) (by simp) (by simp))
          have HP := Lib.hid hp
          have HD2 := Lib.hid (HDM.out.trans (HCM.out.did hp (only_set (only_refl _ h) _ _)))
          clear hp
          generalize hwn : wr.setCell ⟨h, 1 + i * 5 + 3, none⟩ (.int .i64 ((g : Int) + 1)) = wn at HP HD2
          have HWN := Lib.hid hwn
          clear hwn
          obtain ⟨s1, hs1⟩ : ∃ s1, s1 = setN (epd s (g + 1) m) i { (epd s (g + 1) m).nd i with led := g + 1 } := ⟨_, rfl⟩
          rw [← hs1] at HP HD2
          have hlg : ∀ j, (s1.nd j).log = (s.nd j).log := fun j => by
            rw [hs1]
            by_cases e : j = i
            · subst e; rw [setN_at]; exact epd_log _ _ _ _
            · rw [setN_ne _ _ e]; exact epd_log _ _ _ _
          have HLS := Lib.hid (show ledS s m i (g + 1) bb = setN s1 i { s1.nd i with log := (s.nd bb).log } by rw [hs1]; rfl)
          have HLG := Lib.hid hlg
          clear hs1 hlg
          obtain ⟨_, _, _, _, y4, _⟩ := HP.out.at_ (i := bb) (by omega)
          obtain ⟨A, cp, hlv, hcp, hA⟩ := HP.out.log (i := bb) (by omega)
          have hL := HP.out.l bb (by omega)
          rw [HLG.out bb] at hlv hA hL
          rw [hlv] at y4
          have HA := Lib.hid hA
          have HY4 := Lib.hid y4
          have hBz : B ≤ wn.heap.size := by have := HP.out.hB; have := HP.out.blk.lt; omega
          clear hA y4
          obtain ⟨_, _, _, _, x4, _⟩ := HCM.out.at_ (i := bb) (by omega)
          have hlx : lv bb = .slice A (s.nd bb).log.length cp := hlv
          rw [hlx] at x4
          have hn1 : (1 + i * 5 + 3 = 1 + bb * 5 + 4) = False := eq_false (by omega)
          have hn2 : (1 + bb * 5 + 4 = 1 + i * 5 + 3) = False := eq_false (by omega)
          clear hlx
          clear hlv
          go_wp2_with fail
          rw [HWN.out]
          refine (copy_any HA.out (Ent_one _) hL).mono ?_
          rintro e w2 ⟨v2, rfl, hv2, hb2⟩
          obtain ⟨D2, c2, rfl, _⟩ := own_slice hv2
          have hgr : wn.grownBy w2 (lv i).ownBlock := ⟨hb2.os, hb2.tape, hb2.output, hb2.size, fun k hk _ => hb2.block k hk⟩
          have hvb : (Value.slice D2 (s.nd bb).log.length c2).ownBlock = none ∨ (Value.slice D2 (s.nd bb).log.length c2).ownBlock = (lv i).ownBlock ∨ ∃ g, (Value.slice D2 (s.nd bb).log.length c2).ownBlock = some g ∧ wn.heap.size ≤ g := by
            cases e : (Value.slice D2 (s.nd bb).log.length c2).ownBlock with
            | none => exact .inl rfl
            | some g => exact .inr (.inr ⟨g, rfl, (hv2.lt g e).1⟩)
          have HC2 := HP.out.keep hb2
          obtain ⟨_, _, _, _, r4, _⟩ := HC2.at_ hi7
          have f4 := (HC2.blk.at_ (k := 1 + i * 5 + 4) (by omega)).2
          have HT := Lib.hid (HP.out.told hi hgr (own_base hv2 hBz) hvb hL)
          rw [← HLS.out] at HT
          have HFIN := Lib.hid (((HDID.out).trans HD2.out).trans HT.out)
          clear hv2 hb2 hgr hvb HC2
          go_wp2
          go_ret
          exact ⟨rfl, by rw [HG2.out]; exact HFIN.out⟩
end Rp
end Go.Proofs.Ytdbpbpnbcjbchaa
