/- The walk of nat.GCD. -/
import Derived.Test.YtiflmnmkmpjecaaNatRGcd
import Derived.Test.YtiflmnmkmpjecaaNatDivBad
import Derived.Test.YtiflmnmkmpjecaaBox
set_option linter.unusedVariables false
namespace Go.Proofs.Ytiflmnmkmpjecaa
open Go.RowKit

set_option maxHeartbeats 4000000 in
set_option maxRecDepth 100000 in
theorem gcd_any {D E : Option Addr} {n m c c' x y : Nat} {w : World} (hn : n ≤ 64) (hm : m ≤ 64) (hnx : n = L32 x) (hmy : m = L32 y) (hx : Cells w D n (Lm (d32 x))) (hy : Cells w E m (Lm (d32 y))) :
    Calls Try.prog 82 #[natv D n c, natv E m c'] w fun e w' => ∃ Dr cr, e = .returned (.tuple #[natv Dr (L32 (Nat.gcd x y)) cr, .int .i64 0]) ∧ L32 (Nat.gcd x y) ≤ cr ∧ Cells w' Dr (L32 (Nat.gcd x y)) (Lm (d32 (Nat.gcd x y))) ∧ Fresh w.heap.size Dr ∧ Below w.heap.size w w' := by
  have hvx := Lib.hid (vd_true hn hnx)
  have hvy := Lib.hid (vd_true hm hmy)
  have HX := Lib.hid hnx
  have HY := Lib.hid hmy
  have HG64 := Lib.hid (gcd_len (x := x) (y := y) (by omega) (by omega))
  clear hnx hmy
  have BO0 := Lib.hid (Bo.new w (.slice D n c) (.slice E m c') (.slice none 0 0))
  unfold natv
  go_enter Try.func82, Try.ntmps82
  go_wp2_with fail
  refine (nvalid_is (by omega) (hx.below BO0.out.below) hvx.out).mono ?_
  rintro e w1 ⟨rfl, hb1⟩
  have BO1 := Lib.hid (BO0.out.on hb1)
  obtain ⟨q0, q1, q2, f2, hlt⟩ := BO1.out.facts
  clear hb1 BO0
  go_wp2_with fail
  refine (nvalid_is (by omega) (hy.below BO1.out.below) hvy.out).mono ?_
  rintro e w2 ⟨rfl, hb1⟩
  clear q0 q1 q2 f2 hlt
  have BO2 := Lib.hid (BO1.out.on hb1)
  obtain ⟨q0, q1, q2, f2, hlt⟩ := BO2.out.facts
  clear hb1 BO1
  have hx2 := hx.below BO2.out.below
  have hy2 := hy.below BO2.out.below
  have BO2b := BO2.out
  go_upto_region 3 with (fail)
  go_cut [6, 7] (fun s6 s7 wx => ∃ (gx gy : Nat) (D1 : Option Addr) (c1 : Nat) (D2 : Option Addr) (c2 : Nat), s6 = .pointer (some ⟨gx, 0, none⟩) ∧ s7 = .pointer (some ⟨gy, 0, none⟩) ∧ L32 x ≤ c1 ∧ L32 y ≤ c2 ∧ Hid (Fresh (w.heap.size + 1 + 1 + 1) D1) ∧ Hid (Fresh (w.heap.size + 1 + 1 + 1) D2) ∧ Hid (Off gx D1 (L32 x)) ∧ Hid (Off gy D1 (L32 x)) ∧ Hid (Off gx D2 (L32 y)) ∧ Hid (Off gy D2 (L32 y)) ∧ gx ≠ gy ∧ w.heap.size + 1 + 1 < gx ∧ w.heap.size + 1 + 1 < gy ∧
    Hid (Blk wx gx 32 #[.slice D1 (L32 x) c1]) ∧ Hid (Blk wx gy 32 #[.slice D2 (L32 y) c2]) ∧ Hid (Cells wx D1 (L32 x) (Lm (d32 x))) ∧ Hid (Cells wx D2 (L32 y) (Lm (d32 y))) ∧ Hid (Bo w wx (.slice D n c) (.slice E m c') (.slice none 0 0)))
  case first =>
    have BOd : Bo w w2.drew (.slice D n c) (.slice E m c') (.slice none 0 0) := BO2b.on (bl_drew (Below.refl _ _))
    have td := Bo.lt2 BO2b
    go_region_held3 (fun w' => w'.cell? ⟨w.heap.size, 0, none⟩ = some (.slice D n c) ∧ w'.cell? ⟨w.heap.size + 1, 0, none⟩ = some (.slice E m c') ∧ Bo w w' (.slice D n c) (.slice E m c') (.slice none 0 0))
        (first
          | exact Bo.keep (by assumption)
          | exact Bo.keep (Bo.on (by assumption) (bl_alloc (Below.refl _ _) _))
          | exact Bo.keep (Bo.on (Bo.on (by assumption) (bl_alloc (Below.refl _ _) _)) (bl_alloc (Below.refl _ _) _))
          | (refine Bo.keep ?_; repeat' (first | exact Bo.on (by assumption) (bl_alloc (Below.refl _ _) _) | exact (by assumption) | refine Bo.set_ ?_ (by first | omega | (simp; omega)) _ _ | refine Bo.on ?_ (bl_alloc (Below.refl _ _) _))))
        (first
          | (go_at_call_of 104 (Value.agg #[Value.slice D n c]); refine (copied_any (x := x) hn HX.out (Cells.below hx2 ?_)).mono ?_; (first | exact Below.refl _ _ | exact bl_drew (Below.refl _ _) | exact bl_alloc (bl_drew (Below.refl _ _)) _ | exact bl_alloc (bl_alloc (bl_drew (Below.refl _ _)) _) _); rintro e w5 ⟨D5, c5, rfl, hl5, hc5, hf5, hb5⟩; unfold natv; have s5 := hb5.size; (try (have l_w2_w5 : w2.heap.size < w5.heap.size := by have := hb5.size; simp at this; omega)); (try (have l_w2p_w5 : w2.heap.size + 1 < w5.heap.size := by have := hb5.size; simp at this; omega)); obtain ⟨bc5, bf5⟩ := bcell hb5; have B5 := Bo.on (by first | exact BOd | exact Bo.on BOd (bl_alloc (Below.refl _ _) _) | exact Bo.on (Bo.on BOd (bl_alloc (Below.refl _ _) _)) (bl_alloc (Below.refl _ _) _)) hb5; have t5 := Bo.lt2 B5)
          | (go_at_call_of 104 (Value.agg #[Value.slice E m c']); refine (copied_any (x := y) hm HY.out (Cells.below hy2 (by first | exact bl_on (bl_drew (Below.refl _ _)) hb5 | exact bl_on (bl_on (bl_drew (Below.refl _ _)) hb5) (bl_alloc (Below.refl _ _) _) | exact bl_on (bl_on (bl_drew (Below.refl _ _)) hb5) (bl_alloc (bl_alloc (Below.refl _ _) _) _) | exact bl_on (bl_alloc (bl_drew (Below.refl _ _)) _) hb5 | exact bl_on (bl_on (bl_alloc (bl_drew (Below.refl _ _)) _) hb5) (bl_alloc (Below.refl _ _) _) | exact bl_on (bl_alloc (bl_alloc (bl_drew (Below.refl _ _)) _) _) hb5))).mono ?_; rintro e w6 ⟨D6, c6, rfl, hl6, hc6, hf6, hb6⟩; unfold natv; have s6 := hb6.size; (try (have l_w5_w6 : w5.heap.size < w6.heap.size := by have := hb6.size; simp at this; omega)); (try (have l_w5p_w6 : w5.heap.size + 1 < w6.heap.size := by have := hb6.size; simp at this; omega)); (try (have l_w2_w6 : w2.heap.size < w6.heap.size := by have h1 := hb6.size; have h2 := hb5.size; simp at h1 h2; omega)); (try (have l_w2p_w6 : w2.heap.size + 1 < w6.heap.size := by have h1 := hb6.size; have h2 := hb5.size; simp at h1 h2; omega)); obtain ⟨bc6, bf6⟩ := bcell hb6; obtain ⟨bc56, bf56⟩ := bcell (bl_on hb5 (by first | exact hb6 | exact bl_on (bl_alloc (Below.refl _ _) _) hb6 | exact bl_on (bl_alloc (bl_alloc (Below.refl _ _) _) _) hb6)); have B6 := Bo.on (by first | exact B5 | exact Bo.on B5 (bl_alloc (Below.refl _ _) _) | exact Bo.on (Bo.on B5 (bl_alloc (Below.refl _ _) _)) (bl_alloc (Below.refl _ _) _)) hb6; have t6 := Bo.lt2 B6))
    all_goals
      go_wp2_with fail
      go_meet
      case rel =>
        refine ⟨_, _, D5, c5, D6, c6, rfl, rfl, hl5, hl6, Lib.hid (hf5.mono (by first | omega | (simp; done) | (simp; omega))), Lib.hid (hf6.mono (by first | omega | (simp; done) | (simp; omega))), Lib.hid (by first | exact Off.of_fresh hf5 (by first | omega | (simp; done) | (simp; omega)) | exact Off.of_cells hc5 (by first | omega | (simp; done) | (simp; omega))), Lib.hid (by first | exact Off.of_fresh hf5 (by first | omega | (simp; done) | (simp; omega)) | exact Off.of_cells hc5 (by first | omega | (simp; done) | (simp; omega))), Lib.hid (by first | exact Off.of_fresh hf6 (by first | omega | (simp; done) | (simp; omega)) | exact Off.of_cells hc6 (by first | omega | (simp; done) | (simp; omega))), Lib.hid (by first | exact Off.of_fresh hf6 (by first | omega | (simp; done) | (simp; omega)) | exact Off.of_cells hc6 (by first | omega | (simp; done) | (simp; omega))), by omega, by omega, by omega, Lib.hid ?_, Lib.hid ?_, Lib.hid ?_, Lib.hid ?_, Lib.hid ?_⟩
        · repeat' (first | exact Blk.new' (by first | rfl | (simp; done) | (simp; omega)) | refine Blk.put (a := .slice none 0 0) ?_ _ | refine Blk.other ?_ (by omega) _ | refine Blk.alloc ?_ _ | refine Blk.keep ?_ (by assumption))
        · repeat' (first | exact Blk.new' (by first | rfl | (simp; done) | (simp; omega)) | refine Blk.put (a := .slice none 0 0) ?_ _ | refine Blk.other ?_ (by omega) _ | refine Blk.alloc ?_ _ | refine Blk.keep ?_ (by assumption))
        · repeat' (first | exact hc5 | refine Cells.alloc ?_ _ | refine Cells.below ?_ (by assumption) | refine Cells.set_ ?_ hf5 (by first | omega | (simp; done) | (simp; omega)) _ _ | refine Cells.set_new ?_ hc5 (by first | omega | (simp; done) | (simp; omega)) _ _)
        · repeat' (first | exact hc6 | refine Cells.alloc ?_ _ | refine Cells.below ?_ (by assumption) | refine Cells.set_ ?_ hf6 (by first | omega | (simp; done) | (simp; omega)) _ _ | refine Cells.set_new ?_ hc6 (by first | omega | (simp; done) | (simp; omega)) _ _)
        · repeat' (first | exact Bo.on (by assumption) (bl_alloc (Below.refl _ _) _) | exact (by assumption) | refine Bo.set_ ?_ (by first | omega | (simp; omega)) _ _ | refine Bo.on ?_ (bl_alloc (Below.refl _ _) _))
  case rest =>
    obtain ⟨gx, gy, D1, c1, D2, c2, rfl, rfl, hlc1, hlc2, F1, F2, O1, O2, O3, O4, hxy, hgx, hgy, KX, KY, HC1, HC2, BO3⟩ := hcut
    clear hx2 hy2 BO2b hvx hvy
    obtain ⟨q0, q1, q2, f2, hlt⟩ := BO3.out.facts
    have HL1 := Lib.hid (show L32 x ≤ 64 by rw [← HX.out]; exact hn)
    have HL2 := Lib.hid (show L32 y ≤ 64 by rw [← HY.out]; exact hm)
    clear HX HY
    go_wp2
    go_loopg [] y (fun g wr => ∃ (x' y' : Nat) (D1 : Option Addr) (c1 : Nat) (D2 : Option Addr) (c2 : Nat), y' ≤ g ∧ L32 x' ≤ 64 ∧ L32 y' ≤ 64 ∧ Hid (Nat.gcd x' y' = Nat.gcd x y) ∧ Hid (Blk wr gx 32 #[.slice D1 (L32 x') c1]) ∧ Hid (Blk wr gy 32 #[.slice D2 (L32 y') c2]) ∧ Hid (Cells wr D1 (L32 x') (Lm (d32 x'))) ∧ Hid (Cells wr D2 (L32 y') (Lm (d32 y'))) ∧ L32 x' ≤ c1 ∧ L32 y' ≤ c2 ∧ Hid (Fresh (w.heap.size + 1 + 1 + 1) D1) ∧ Hid (Fresh (w.heap.size + 1 + 1 + 1) D2) ∧ Hid (Off gx D2 (L32 y')) ∧ Hid (Off gy D2 (L32 y')) ∧ Hid (Bo w wr (.slice D n c) (.slice E m c') (.slice none 0 0)))
    case atStart => exact ⟨x, y, D1, c1, D2, c2, Nat.le_refl _, HL1.out, HL2.out, Lib.hid rfl, KX, KY, HC1, HC2, hlc1, hlc2, F1, F2, O3, O4, BO3⟩
    case round =>
      obtain ⟨x', y', D1, c1, D2, c2, hg, l1, l2, HG, KX, KY, HC1, HC2, hlc, hlc2, F1, F2, O3, O4, BO⟩ := hrel
      obtain ⟨q0, q1, q2, f2, hlt⟩ := BO.out.facts
      have rx : wr.cell? ⟨gx, 0, none⟩ = some (.slice D1 (L32 x') c1) := KX.out.cell 0
      have ry : wr.cell? ⟨gy, 0, none⟩ = some (.slice D2 (L32 y') c2) := KY.out.cell 0
      by_cases hy0 : 0 < y'
      · have py : 0 < L32 y' := by
          rcases Nat.eq_zero_or_pos (L32 y') with e | e
          · have := L32_zero.1 e; omega
          · exact e
        go_wp2_with fail
        refine (divmod_any (x := x') (y := y') l1 l2 rfl rfl HC1.out HC2.out hy0).mono ?_
        rintro e w5 ⟨⟨Dq, cq, Dr, cr, rfl, hlq, hlr, hcq, hcr, hfq, hfr⟩, hb5⟩
        clear q0 q1 q2 f2 rx ry
        unfold natv
        have hrl : L32 (x' % y') ≤ 64 := Nat.le_trans (Nt.len_mono (by omega) (Nat.le_of_lt (Nat.mod_lt x' hy0))) l2
        have hrg : x' % y' < y' := Nat.mod_lt x' hy0
        have HGN := Lib.hid (show Nat.gcd y' (x' % y') = Nat.gcd x y by rw [← HG.out, Nat.gcd_comm x' y', Nat.gcd_rec y' x', Nat.gcd_comm])
        obtain ⟨q, hq⟩ : ∃ q, q = x' / y' := ⟨_, rfl⟩
        obtain ⟨r, hr⟩ : ∃ r, r = x' % y' := ⟨_, rfl⟩
        rw [← hq] at hcq hlq ⊢
        rw [← hr] at hcr hlr hrl hrg HGN ⊢
        have BO5 := Lib.hid (BO.out.on hb5)
        have KX5 := Lib.hid (KX.out.keep hb5)
        have KY5 := Lib.hid (KY.out.keep hb5)
        have HC25 := Lib.hid (HC2.out.below hb5)
        have HCR := Lib.hid hcr
        have HFR := Lib.hid hfr
        have hgxl := KX.out.lt
        have hgyl := KY.out.lt
        have hs5 := hb5.size
        clear hq hr hcq hlq hfq hcr hfr hb5 HG HC1 HC2 KX KY BO
        have ry5 : ((w5.alloc (.cells #[.slice Dq (L32 q) cq] 32)).alloc (.cells #[.slice Dr (L32 r) cr] 32)).cell? ⟨gy, 0, none⟩ = some (.slice D2 (L32 y') c2) := ((KY5.out.alloc _).alloc _).cell 0
        have fy5 : ((w5.alloc (.cells #[.slice Dq (L32 q) cq] 32)).alloc (.cells #[.slice Dr (L32 r) cr] 32)).frozen? ⟨gy, 0, none⟩ = false := ((KY5.out.alloc _).alloc _).frozen 0
        have rx5 : ((w5.alloc (.cells #[.slice Dq (L32 q) cq] 32)).alloc (.cells #[.slice Dr (L32 r) cr] 32)).cell? ⟨gx, 0, none⟩ = some (.slice D1 (L32 x') c1) := ((KX5.out.alloc _).alloc _).cell 0
        have fx5 : ((w5.alloc (.cells #[.slice Dq (L32 q) cq] 32)).alloc (.cells #[.slice Dr (L32 r) cr] 32)).frozen? ⟨gx, 0, none⟩ = false := ((KX5.out.alloc _).alloc _).frozen 0
        have hne1 : gx ≠ w5.heap.size + 1 := by omega
        have hne2 : gy ≠ w5.heap.size + 1 := by omega
        have hxy2 : gy ≠ gx := fun e => hxy e.symm
        go_wp2_with fail
        go_region
        all_goals
          go_wp2_with fail
          go_roundg r
          case measure => omega
          case rel =>
            refine ⟨y', r, D2, c2, Dr, cr, Nat.le_refl _, l2, hrl, HGN, Lib.hid ?_, Lib.hid ?_, Lib.hid ?_, Lib.hid ?_, hlc2, hlr, F2, Lib.hid (HFR.out.mono (by omega)), Lib.hid (Off.of_fresh HFR.out hgxl), Lib.hid (Off.of_fresh HFR.out hgyl), Lib.hid ?_⟩
            · exact (((KX5.out.alloc _).alloc _).put _).other hxy _
            · exact (((KY5.out.alloc _).alloc _).other hxy2 _).put _
            · exact (((HC25.out.alloc _).alloc _).off O3.out _ _).off O4.out _ _
            · exact (((HCR.out.alloc _).alloc _).off (Off.of_fresh HFR.out hgxl) _ _).off (Off.of_fresh HFR.out hgyl) _ _
            · exact (((BO5.out.on (bl_alloc (bl_alloc (Below.refl _ _) _) _)).set_ hgx _ _).set_ hgy _ _).on (bl_drew (Below.refl _ _))
      · obtain rfl : y' = 0 := by omega
        have hz : L32 0 = 0 := L32_zero.2 rfl
        rw [hz] at ry
        have HG2 := Lib.hid (show x' = Nat.gcd x y by rw [← HG.out, Nat.gcd_zero_right])
        obtain ⟨l, hl⟩ : ∃ l, l = L32 x' := ⟨_, rfl⟩
        rw [← hl] at rx hlc
        have HL := Lib.hid hl
        clear hz hl
        go_wp2
        refine bodyPost_ret (v := .tuple #[natv D1 l c1, .int .i64 0]) (by unfold natv; simp [results, Try.results82, go_sem, q2]) rfl ?_
        rw [← HG2.out]
        refine ⟨D1, c1, by rw [← HL.out]; rfl, by rw [← HL.out]; exact hlc, HC1.out.set_ F1.out (Nat.lt_succ_self _) _ _, F1.out.mono (by omega), BO.out.below.setCell (p := ⟨w.heap.size + 1 + 1, 0, none⟩) (by simp; omega) _⟩
end Go.Proofs.Ytiflmnmkmpjecaa
