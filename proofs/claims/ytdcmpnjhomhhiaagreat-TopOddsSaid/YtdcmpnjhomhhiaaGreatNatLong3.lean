/- The walk of nat.divideLong. -/
import Derived.Test.YtdcmpnjhomhhiaaGreatG3
import Derived.Deep.CutBlock
import Derived.Deep.DeepCutAuto
import Derived.StillTailTactics
set_option linter.unusedVariables false
namespace Go.Proofs.YtdcmpnjhomhhiaaGreat
open Go.RowKit

theorem Arr.keep {w w' : World} {g : Nat} {t : TypeId} {M : Nat} {F : Nat → Value} (h : Arr w g t M F) (hb : Below w.heap.size w w') : Arr w' g t M F := Blk.keep h hb
theorem Arr.grown {w w' : World} {g : Nat} {t : TypeId} {M : Nat} {F : Nat → Value} {r : Option Nat} (h : Arr w g t M F) (hb : w.grownBy w' r) (hne : some g ≠ r) : Arr w' g t M F := Blk.grown h hb hne
theorem Arr.lt {w : World} {g : Nat} {t : TypeId} {M : Nat} {F : Nat → Value} (h : Arr w g t M F) : g < w.heap.size := Blk.lt h
theorem Arr.own {w : World} {base g : Nat} {e : TypeId} {n : Nat} {F : Nat → Value} (h : w.ownsRow base e 1 (.slice (some ⟨g, 0, none⟩) n n) n (row (n * 1) F)) : Arr w g e n F ∧ base ≤ g := by
  obtain ⟨F', hA, _, hb, hF⟩ := Arr.of_own h
  exact ⟨hA.congr hF, hb⟩
def qcell (Q k t : Nat) : Nat := if t < k then 0 else d32 Q t
theorem qcell_next (Q k t : Nat) : Lm (qcell Q k) t = if t = k then .int .u32 (d32 Q k : Int) else Lm (qcell Q (k + 1)) t := by
  unfold Lm qcell
  by_cases e : t = k
  · subst e; rw [if_neg (by omega), if_pos rfl]
  · rw [if_neg e]
    by_cases h : t < k
    · rw [if_pos h, if_pos (by omega)]
    · rw [if_neg h, if_neg (show ¬ t < k + 1 by omega)]

theorem dec_inv {G L top head q : Nat} (h : G * top + L = head) (hq : q < G) : (G - 1) * top + (L + top) = head ∧ q ≤ G - 1 ∧ 1 ≤ G := by
  obtain ⟨G1, rfl⟩ : ∃ G1, G = G1 + 1 := ⟨G - 1, by omega⟩
  rw [Nat.add_mul, Nat.one_mul] at h
  rw [Nat.add_sub_cancel]
  exact ⟨by omega, by omega, by omega⟩
def Gr (top head q : Nat) (g l : Value) : Prop := ∃ G L : Nat, g = .int .u64 (G : Int) ∧ l = .int .u64 (L : Int) ∧ G ≤ 4294967297 ∧ L < 4294967296 ∧ Hid (G * top + L = head ∧ q ≤ G)
theorem Gr.mk_ {top head q G L : Nat} {a b : Int} (h1 : a = (G : Int)) (h2 : b = (L : Int)) (h3 : G ≤ 4294967297) (h4 : L < 4294967296) (h5 : G * top + L = head ∧ q ≤ G) : Gr top head q (.int .u64 a) (.int .u64 b) := ⟨G, L, by rw [h1], by rw [h2], h3, h4, h5⟩
set_option maxHeartbeats 4000000 in
set_option maxRecDepth 100000 in
theorem dlong_any {D E : Option Addr} {n m c c' x y : Nat} {w : World} (hm2 : 2 ≤ m) (hmn : m ≤ n) (hn : n ≤ 64) (hnx : n = L32 x) (hmy : m = L32 y) (hx : Cells w D n (Lm (d32 x))) (hy : Cells w E m (Lm (d32 y))) :
    Calls Tryz.prog 78 #[.slice D n c, .slice E m c'] w fun e w' => ∃ gq gr cq, e = .returned (.tuple #[.slice (some ⟨gq, 0, none⟩) (n - m + 1) cq, .slice (some ⟨gr, 0, none⟩) m m]) ∧ n - m + 1 ≤ cq ∧ Cells w' (some ⟨gq, 0, none⟩) (n - m + 1) (Lm (d32 (x / y))) ∧ Cells w' (some ⟨gr, 0, none⟩) m (Lm (d32 (x % y))) ∧ w.heap.size ≤ gq ∧ w.heap.size ≤ gr ∧ Below w.heap.size w w' := by
  obtain ⟨i0, hi, hz0, hz1, hz2⟩ := info_parts Tryz.infoU
  have hyt := len32_top (N := y) (by omega)
  rw [← hmy] at hyt
  have hyt2 := d32_lt y (m - 1)
  have HX := Lib.hid hnx
  have HY := Lib.hid hmy
  clear hnx hmy
  obtain ⟨b1, o1, rfl, hlt1, hc1⟩ := hy.lm (show m - 1 < m by omega)
  have HYC := Lib.hid hy
  clear hy
  go_enter Tryz.func78, Tryz.ntmps78
  go_wp2_with fail
  refine (lz_any _ hyt hyt2 _).mono ?_
  rintro e w1 ⟨s, rfl, hs, hs1, hs2, rfl⟩
  have HS1 := Lib.hid hs1
  have HS2 := Lib.hid hs2
  clear hs1 hs2
  go_wp2_with fail
  refine (shifted_any (x := y) (by omega) hs (by rw [HY.out]; exact fit32_len y) HYC.out).mono ?_
  rintro e w2 ⟨gv, rfl, hov, hb2⟩
  obtain ⟨hAv, hgv⟩ := Arr.own hov
  have HV2 := Lib.hid hAv
  have HB2 := Lib.hid hb2
  clear hov hb2 hAv
  go_wp2_with fail
  refine (shifted_any (x := x) (by omega) hs (by rw [HX.out]; exact fit32_len x) (hx.below HB2.out)).mono ?_
  rintro e w3 ⟨gr, rfl, hor, hb3⟩
  obtain ⟨hAr, hgr⟩ := Arr.own hor
  have HR3 := Lib.hid hAr
  have HV3 := Lib.hid (HV2.out.keep hb3)
  have hvr : gv < gr := Nat.lt_of_lt_of_le HV2.out.lt hgr
  have HB3 := Lib.hid (Below.on HB2.out hb3)
  clear hor hb3 hAr HV2 HB2
  obtain ⟨v, hv⟩ : ∃ v, v = 2 ^ s * y := ⟨_, rfl⟩
  obtain ⟨u, hu⟩ : ∃ u, u = 2 ^ s * x := ⟨_, rfl⟩
  rw [← hv] at HV3
  rw [← hu] at HR3
  have HVD := Lib.hid hv
  have HUD := Lib.hid hu
  clear hv hu
  go_wp2_with (at_make; refine wpList_make_full _ rfl _ _ 32 rfl w.heap.size 65 i0 (.int .u32 0) 1 Tryz.underlying32 hi hz0 hz1 _ _ _ _ (n - m + 1) rfl rfl ?c1 ?c2 ?c3 ?c4 ?c5 ?_)
  case c1 => omega
  case c2 => omega
  case c3 => rw [hz2]; omega
  case c4 => unfold maxLen; omega
  case c5 => exact HB3.out.size
  intro w4 hown hgr4
  have hrq : gr < w3.heap.size := HR3.out.lt
  have HB4 := Lib.hid (Below.on HB3.out (show Below w3.heap.size w3 w4 from ⟨hgr4.os, hgr4.tape, hgr4.output, hgr4.size, fun k hk => hgr4.block k hk (by simp)⟩))
  have HV4 := Lib.hid (HV3.out.grown hgr4 (by simp))
  have HR4 := Lib.hid (HR3.out.grown hgr4 (by simp))
  obtain ⟨hAq, _⟩ := Arr.own (made_own (z := .int .u32 0) hown)
  have HQ4 := Lib.hid hAq
  clear hown hgr4 hAq HV3 HR3 HB3
  have hwgr : w.heap.size ≤ gr := Nat.le_trans hgv (Nat.le_of_lt hvr)
  have hwgq : w.heap.size ≤ w3.heap.size := Nat.le_trans hwgr (Nat.le_of_lt hrq)
  generalize w3.heap.size = gq at *
  obtain ⟨ct, hft⟩ := HV4.out.at_ (show m - 1 < m + 1 by omega)
  obtain ⟨cn, hfn⟩ := HV4.out.at_ (show m - 2 < m + 1 by omega)
  obtain ⟨hfit, hhalf, hbig⟩ := norm_top (y := y) (m := m) (by omega) (by rw [HY.out]; exact fit32_len y) HS1.out HS2.out hs
  rw [← HVD.out] at hfit hhalf hbig
  have hstart := long_start (s := s) (x := x) (y := y) (n := n) (m := m) (by rw [HX.out]; exact fit32_len x) hmn (by omega) (len_big (by omega) HY.out)
  rw [← HVD.out, ← HUD.out] at hstart
  have hv0 : 0 < v := Nat.lt_of_lt_of_le (Nat.pow_pos (by omega)) hbig
  obtain ⟨top, htop⟩ : ∃ top, top = d32 v (m - 1) := ⟨_, rfl⟩
  obtain ⟨next, hnext⟩ : ∃ next, next = d32 v (m - 2) := ⟨_, rfl⟩
  have ct2 : w4.cell? ⟨gv, m - 1, none⟩ = some (.int .u32 (top : Int)) := by rw [htop]; exact ct
  have cn2 : w4.cell? ⟨gv, m - 2, none⟩ = some (.int .u32 (next : Int)) := by rw [hnext]; exact cn
  have htl : top < 4294967296 := by rw [htop]; exact d32_lt _ _
  have hnl : next < 4294967296 := by rw [hnext]; exact d32_lt _ _
  have HGS : Hid (∀ j, Gs (lwin u v j) v m top next (d32 (lwin u v j) m * 4294967296 + d32 (lwin u v j) (m - 1)) (d32 (lwin u v j) (m - 2))) := fun j => by
    rw [htop, hnext]; exact Gs.mk_ hm2 hfit hbig hhalf (lwin_lt hv0)
  have htp : 0 < top := by rw [htop]; omega
  have HFIT := Lib.hid hfit
  have HR5 := Lib.hid (HR4.out.congr (F' := Lm (rcell u v (n - m + 1))) fun t _ => by unfold Lm; rw [rcell_start hstart])
  have HQ5 := Lib.hid (HQ4.out.congr (F' := Lm (qcell (u / v) (n - m + 1))) fun t ht => by unfold Lm qcell; rw [if_pos ht]; rfl)
  clear ct cn hft hfn hfit hbig hhalf hstart htop hnext HR4 HQ4
  have i1 : (0 : Int) ≤ (m : Int) - 1 := by omega
  have i2 : (0 : Int) ≤ (m : Int) - 2 := by omega
  have i3 : ((m : Int) - 1).toNat = m - 1 := by omega
  have i4 : ((m : Int) - 2).toNat = m - 2 := by omega
  have i5 : IntKind.i64.wrap ((m : Int) - 1) = (m : Int) - 1 := IntWalk.i64_in _ (by omega)
  have i6 : IntKind.i64.wrap ((m : Int) - 2) = (m : Int) - 2 := IntWalk.i64_in _ (by omega)
  have i7 : IntKind.u64.wrap (top : Int) = (top : Int) := IntWalk.u64_in _ (by omega)
  have i8 : IntKind.u64.wrap (next : Int) = (next : Int) := IntWalk.u64_in _ (by omega)
  go_wp2
  go_quiet (fail)
  go_wp2
  clear ct2 cn2
  have HI3 := Lib.hid i3
  have HI4 := Lib.hid i4
  have HI5 := Lib.hid i5
  have HI6 := Lib.hid i6
  clear i3 i4 i5 i6 i7 i8
  go_loopw [13] (fun i wr => ∃ k : Nat, k ≤ n - m + 1 ∧ i = .int .i64 ((k : Int) - 1) ∧ Hid (Arr wr gr 65 (n + 1) (Lm (rcell u v k))) ∧ Hid (Arr wr gq 65 (n - m + 1) (Lm (qcell (u / v) k))) ∧ Hid (Arr wr gv 65 (m + 1) (Lm (d32 v))) ∧ Hid (Below w.heap.size w wr)) (fun i _ => (intOf i + 1).toNat)
  case atStart => exact ⟨n - m + 1, Nat.le_refl _, congrArg _ (by omega), HR5, HQ5, HV4, below_drewN HB4.out _⟩
  case round =>
    obtain ⟨k, hk, rfl, HR6, HQ6, HV6, HB6⟩ := hrel
    by_cases hk0 : 0 < k
    · obtain ⟨j, rfl⟩ : ∃ j, k = j + 1 := ⟨k - 1, by omega⟩
      have ej : ((j + 1 : Nat) : Int) - 1 = (j : Int) := by omega
      rw [ej]
      clear ej
      have HGj := Lib.hid (HGS.out j)
      have HFj := Lib.hid (fun t (_ : t < m + 1) => show Lm (rcell u v (j + 1)) (j + t) = .int .u32 (d32 (lwin u v j) t : Int) by unfold Lm; rw [rcell_win])
      obtain ⟨W, hW⟩ : ∃ W, W = lwin u v j := ⟨_, rfl⟩
      rw [← hW] at HGj HFj
      have HWD := Lib.hid hW
      clear hW
      obtain ⟨cm, hfm⟩ := HR6.out.at_ (show j + m < n + 1 by omega)
      obtain ⟨cm1, hfm1⟩ := HR6.out.at_ (show j + (m - 1) < n + 1 by omega)
      obtain ⟨cm2, hfm2⟩ := HR6.out.at_ (show j + (m - 2) < n + 1 by omega)
      rw [HFj.out m (by omega)] at cm
      rw [HFj.out (m - 1) (by omega)] at cm1
      rw [HFj.out (m - 2) (by omega)] at cm2
      clear hfm hfm1 hfm2
      obtain ⟨dm, hdm⟩ : ∃ dm, dm = d32 W m := ⟨_, rfl⟩
      obtain ⟨d1, hd1⟩ : ∃ d1, d1 = d32 W (m - 1) := ⟨_, rfl⟩
      obtain ⟨d2, hd2⟩ : ∃ d2, d2 = d32 W (m - 2) := ⟨_, rfl⟩
      have ldm : dm < 4294967296 := by rw [hdm]; exact d32_lt _ _
      have ld1 : d1 < 4294967296 := by rw [hd1]; exact d32_lt _ _
      have ld2 : d2 < 4294967296 := by rw [hd2]; exact d32_lt _ _
      rw [← hdm] at cm HGj
      rw [← hd1] at cm1 HGj
      rw [← hd2] at cm2 HGj
      clear hdm hd1 hd2
      have hor := or_hi dm d1 ldm ld1
      obtain ⟨head, hh⟩ : ∃ head, head = dm * 4294967296 + d1 := ⟨_, rfl⟩
      rw [← hh] at hor HGj
      have hhl : head ≤ 18446744073709551615 := by omega
      clear hh
      have i3 := HI3.out
      have i5 := HI5.out
      have j1 : (0 : Int) ≤ (m : Int) := by omega
      have j2 : (m : Int) < (m : Int) + 1 := by omega
      have j3 : (m : Int) - 1 < (m : Int) + 1 := by omega
      have j4 : IntKind.u64.wrap ((dm : Int) * 4294967296) = (dm : Int) * 4294967296 := IntWalk.u64_in _ (by omega)
      have j5 : IntKind.u64.wrap (dm : Int) = (dm : Int) := IntWalk.u64_in _ (by omega)
      have j6 : IntKind.u64.wrap (d1 : Int) = (d1 : Int) := IntWalk.u64_in _ (by omega)
      go_upto_region 11 with (fail)
      rw [show j + m + 1 - j = m + 1 by omega]
      go_quiet (fail)
      clear j1 j2 j3 j4 j5 j6 i3 i5 hor
      obtain ⟨G0, hG0⟩ : ∃ G0, G0 = head / top := ⟨_, rfl⟩
      obtain ⟨L0, hL0⟩ : ∃ L0, L0 = head % top := ⟨_, rfl⟩
      have hst0 := HGj.out.start
      rw [← hG0] at hst0
      have hl0 : L0 < top := by rw [hL0]; exact Nat.mod_lt _ htp
      have HI0 := Lib.hid (show G0 * top + L0 = head by rw [hG0, hL0, Nat.mul_comm]; exact Nat.div_add_mod _ _)
      have t1 : (head : Int).tdiv (top : Int) = (G0 : Int) := by rw [Int.tdiv_eq_ediv_of_nonneg (by omega), hG0, Int.natCast_ediv]
      have t2 : (head : Int).tmod (top : Int) = (L0 : Int) := by rw [Int.tmod_eq_emod_of_nonneg (by omega), hL0, Int.natCast_emod]
      have t5 : (head : Int) / (top : Int) = (G0 : Int) := by rw [hG0, Int.natCast_ediv]
      have t6 : (head : Int) % (top : Int) = (L0 : Int) := by rw [hL0, Int.natCast_emod]
      obtain ⟨hs1, hs2⟩ := hst0
      have HS0 := Lib.hid hs1
      clear hG0 hL0 hs1
      have t3 : IntKind.u64.wrap (G0 : Int) = (G0 : Int) := IntWalk.u64_in _ (by omega)
      have t4 : IntKind.u64.wrap (L0 : Int) = (L0 : Int) := IntWalk.u64_in _ (by omega)
      have htp2 : (top : Int) ≠ 0 := by omega
      have htp3 : ((top : Int) == 0) = false := by simp; omega
      go_wp2
      go_quiet (fail)
      clear t1 t2 t3 t4 t5 t6 htp2 htp3
      go_upto_block 2 with (fail)
      go_cut [16] (fun s16 wx => ∃ G : Nat, s16 = .int .u64 (G : Int) ∧ G ≤ 4294967296 ∧ Hid (W / v = G ∨ W / v + 1 = G) ∧ Hid (Arr wx gr 65 (n + 1) (Lm (rcell u v (j + 1)))) ∧ Hid (Arr wx gq 65 (n - m + 1) (Lm (qcell (u / v) (j + 1)))) ∧ Hid (Arr wx gv 65 (m + 1) (Lm (d32 v))) ∧ Hid (Below w.heap.size w wx))
      case first =>
        go_wp2
        go_loop [16, 17] (fun g l => Gr top head (W / v) g l) (fun g _ => (intOf g).toNat)
        case atStart => exact Gr.mk_ rfl rfl hs2 (by omega) ⟨HI0.out, HS0.out⟩
        case round =>
          obtain ⟨G, L, rfl, rfl, hG, hL, HI⟩ := hrel
          have hGi : (G : Int) ≤ 4294967297 := by omega
          have hLi : (L : Int) < 4294967296 := by omega
          have htli : (top : Int) < 4294967296 := by omega
          have hnli : (next : Int) < 4294967296 := by omega
          have hor3 := or_hi L d2 hL ld2
          have HN := Lib.hid (fun h : (G : Int) < 4294967296 => show G * next ≤ 4294967295 * 4294967295 from Nat.mul_le_mul (by omega) (by omega))
          obtain ⟨R3, hR3⟩ : ∃ R3, R3 = L * 4294967296 + d2 := ⟨_, rfl⟩
          have hR3l : (R3 : Int) ≤ 18446744073709551615 := by omega
          rw [← hR3] at hor3
          have HR3 := Lib.hid hR3
          have k6 : IntKind.u64.wrap (d2 : Int) = (d2 : Int) := IntWalk.u64_in _ (by omega)
          clear hR3 hG hL hs2 hhl hl0 ldm ld1 ld2 htl hnl hyt2
          by_cases h1 : (4294967296 : Int) ≤ (G : Int)
          · have HC : Hid (4294967296 ≤ G ∨ L * 4294967296 + d2 < G * next) := .inl (by omega)
            clear hor3 k6
            have HL := Lib.hid (HGj.out.less HI.out.1 HI.out.2 HC.out)
            by_cases h3 : (4294967296 : Int) ≤ (L : Int) + (top : Int)
            · have HX3 := Lib.hid (HGj.out.done (G := G - 1) (l := L + top) (dec_inv HI.out.1 HL.out).1 (by omega) (dec_inv HI.out.1 HL.out).2.1 (.inl (by omega)))
              have hG1 : 1 ≤ G := (dec_inv HI.out.1 HL.out).2.2
              go_wp2
              go_meet
              case rel => exact ⟨G - 1, congrArg _ (by omega), by omega, HX3.out, HR6.out.keep (below_drewN (Below.refl _ _) _), HQ6.out.keep (below_drewN (Below.refl _ _) _), HV6.out.keep (below_drewN (Below.refl _ _) _), below_drewN HB6.out _⟩
            · have HI1 := Lib.hid (show (G - 1) * top + (L + top) = head ∧ W / v ≤ G - 1 from ⟨(dec_inv HI.out.1 HL.out).1, (dec_inv HI.out.1 HL.out).2.1⟩)
              have hG1 : 1 ≤ G := (dec_inv HI.out.1 HL.out).2.2
              go_wp2
              go_round
              case rel => exact Gr.mk_ (G := G - 1) (L := L + top) (by omega) (by omega) (by omega) (by omega) HI1.out
              case measure => simp [intOf]; omega
          · have h1l : (G : Int) < 4294967296 := by omega
            clear h1
            have hm2i : (2 : Int) ≤ (m : Int) := by omega
            have j7 : (m : Int) - 2 < (m : Int) + 1 := by omega
            have j8 : (2 : Int) ≤ (m : Int) ∧ (m : Int) - 2 < (m : Int) + 1 := ⟨hm2i, j7⟩
            have hpn := HN.out (by omega)
            have hp0 : (0 : Int) ≤ (G : Int) * (next : Int) := Int.mul_nonneg (by omega) (by omega)
            have hp1 : (G : Int) * (next : Int) ≤ 18446744065119617025 := by rw [← Int.natCast_mul]; omega
            by_cases h2 : R3 < G * next
            · have h2i : (R3 : Int) < (G : Int) * (next : Int) := by rw [← Int.natCast_mul]; omega
              have HC : Hid (4294967296 ≤ G ∨ L * 4294967296 + d2 < G * next) := .inr (by rw [← HR3.out]; exact h2)
              clear h2 hpn
              have HL := Lib.hid (HGj.out.less HI.out.1 HI.out.2 HC.out)
              have hG1i : (1 : Int) ≤ (G : Int) := by have := (dec_inv HI.out.1 HL.out).2.2; omega
              have k7 : IntKind.u64.wrap ((G : Int) - 1) = (G : Int) - 1 := IntWalk.u64_in _ (by omega)
              have k8 : IntKind.u64.wrap ((L : Int) + (top : Int)) = (L : Int) + (top : Int) := IntWalk.u64_in _ (by omega)
              by_cases h3 : (4294967296 : Int) ≤ (L : Int) + (top : Int)
              · have HX3 := Lib.hid (HGj.out.done (G := G - 1) (l := L + top) (dec_inv HI.out.1 HL.out).1 (by omega) (dec_inv HI.out.1 HL.out).2.1 (.inl (by omega)))
                have hG1 : 1 ≤ G := (dec_inv HI.out.1 HL.out).2.2
                go_wp2
                go_meet
                case rel => exact ⟨G - 1, congrArg _ (by omega), by omega, HX3.out, HR6.out.keep (below_drewN (Below.refl _ _) _), HQ6.out.keep (below_drewN (Below.refl _ _) _), HV6.out.keep (below_drewN (Below.refl _ _) _), below_drewN HB6.out _⟩
              · have HI1 := Lib.hid (show (G - 1) * top + (L + top) = head ∧ W / v ≤ G - 1 from ⟨(dec_inv HI.out.1 HL.out).1, (dec_inv HI.out.1 HL.out).2.1⟩)
                have hG1 : 1 ≤ G := (dec_inv HI.out.1 HL.out).2.2
                go_wp2
                go_round
                case rel => exact Gr.mk_ (G := G - 1) (L := L + top) (by omega) (by omega) (by omega) (by omega) HI1.out
                case measure => simp [intOf]; omega
            · have h2i : (G : Int) * (next : Int) ≤ (R3 : Int) := by rw [← Int.natCast_mul]; omega
              have HX3 := Lib.hid (HGj.out.done (G := G) (l := L) HI.out.1 (by omega) HI.out.2 (.inr (by rw [← HR3.out]; omega)))
              have h2d : decide ((R3 : Int) < (G : Int) * (next : Int)) = false := by simp only [decide_eq_false_iff_not]; omega
              have h1d : decide ((4294967296 : Int) ≤ (G : Int)) = false := by simp only [decide_eq_false_iff_not]; omega
              have h2n : ((R3 : Int) < (G : Int) * (next : Int)) = False := by simp only [eq_iff_iff, iff_false]; omega
              have h1n : ((4294967296 : Int) ≤ (G : Int)) = False := by simp only [eq_iff_iff, iff_false]; omega
              clear h2 hpn
              go_wp2
              go_meet
              case rel => exact ⟨G, rfl, by omega, HX3.out, HR6.out.keep (below_drewN (Below.refl _ _) _), HQ6.out.keep (below_drewN (Below.refl _ _) _), HV6.out.keep (below_drewN (Below.refl _ _) _), below_drewN HB6.out _⟩
      case rest =>
        obtain ⟨G, rfl, hG, HQG, HR7, HQ7, HV7, HB7⟩ := hcut
        obtain ⟨z, β, hWf, hzf, hPf, hzx, hcase⟩ := guess_case (m := m) hv0 HFIT.out HGj.out.small hG HQG.out
        have HZC := Lib.hid hcase
        have HZW := Lib.hid hzx
        have HG := Lib.hid hG
        have hql := HGj.out.qlt
        have HZF := Lib.hid (And.intro hWf (And.intro hzf hPf))
        have HQL := Lib.hid hql
        have HC0 := Lib.hid (fun t => rcell_next (u := u) (v := v) (j := j) (m := m) hv0 HFIT.out t)
        have HQQ := Lib.hid (show d32 (u / v) j = W / v by rw [HWD.out]; exact lwin_quo hv0)
        have HWR := Lib.hid (show ∀ t, Lm (rcell u v j) t = wcell j (m + 1) (d32 (W % v)) (Lm (rcell u v (j + 1))) t from fun t => by
          unfold wcell Lm
          rw [← HC0.out t, ← HWD.out]
          by_cases ht : j ≤ t ∧ t < j + (m + 1)
          · rw [if_pos ht, if_pos ht]
          · rw [if_neg ht, if_neg ht])
        clear hcase hzx hG hql hWf hzf hPf ldm ld1 ld2 htl hnl hyt2 hhl hl0 hs2 hyt
        go_wp2_with fail
        refine (subtract_any (g := gr) (o := j) (M := n + 1) (m := m) (X := W) (v := v) (G := G) (z := z) (β := β) (F := Lm (rcell u v (j + 1))) (by omega) (by omega) (by omega) HG.out HFIT.out HZF.out.1 HZF.out.2.1 HZF.out.2.2 HZW.out HR7.out HFj.out ?_).mono ?_
        · exact fun wr hgr2 => by simpa using ((HV7.out.grown hgr2 (by simp; omega)).cells (o := 0) (n := m) (by omega))
        rintro e w6 ⟨rfl, hr8, hg8⟩
        have HR8 := Lib.hid hr8
        have HQ8 := Lib.hid (HQ7.out.grown hg8 (by simp; omega))
        have HV8 := Lib.hid (HV7.out.grown hg8 (by simp; omega))
        have HB8 := Lib.hid (HB7.out.trans ((only_below hg8 (Nat.le_of_lt HR7.out.lt)).mono hwgr))
        clear hr8 hg8
        rcases HZC.out with ⟨rfl, hGe, hze⟩ | ⟨rfl, hGe, hG1, hze⟩
        · subst hze
          rw [show (((0 : Nat) : Int) != 0) = false from rfl]
          obtain ⟨cq, hcq⟩ := HQ8.out.at_ (show j < n - m + 1 by omega)
          have k9 : IntKind.u32.wrap (G : Int) = (G : Int) := IntWalk.u32_in _ (by have := HQL.out; omega)
          have k10 : (0 : Int) ≤ (j : Int) := by omega
          have k11 : (j : Int) < ((n - m + 1 : Nat) : Int) := by omega
          have HGE := Lib.hid hGe
          clear hGe
          go_wp2
          go_roundw
          case rel =>
            have hp := HQ8.out.put (k := j) (F' := Lm (qcell (u / v) j)) (u := .int .u32 (G : Int)) fun t _ => by
              rw [qcell_next, HQQ.out, HGE.out]
            exact ⟨j, by omega, by go_num, (HR8.out.congr fun t _ => (HWR.out t).symm).grown hp.2 (by simp; omega), hp.1, HV8.out.grown hp.2 (by simp; omega), HB8.out.trans ((only_below hp.2 (Nat.le_of_lt HQ8.out.lt)).mono hwgq)⟩
          case measure => simp [intOf] <;> omega
        · rw [show (((1 : Nat) : Int) != 0) = true from rfl]
          have k12 : IntKind.u64.wrap ((G : Int) - 1) = (G : Int) - 1 := IntWalk.u64_in _ (by have := HG.out; omega)
          go_wp2_with fail
          refine (restore_any (g := gr) (o := j) (M := n + 1) (m := m) (v := v) (z := z) (F := wcell j (m + 1) (d32 z) (Lm (rcell u v (j + 1)))) (by omega) (by omega) (by omega) HFIT.out HR8.out (fun t ht => by unfold wcell; rw [if_pos (by omega), show j + t - j = t by omega]) ?_).mono ?_
          · exact fun wr hgr2 => by simpa using ((HV8.out.grown hgr2 (by simp; omega)).cells (o := 0) (n := m) (by omega))
          rintro e w7 ⟨rfl, hr9, hg9⟩
          have HR9 := Lib.hid (hr9.congr (F' := Lm (rcell u v j)) fun t _ => by
            rw [HWR.out]
            unfold wcell
            by_cases ht : j ≤ t ∧ t < j + (m + 1)
            · rw [if_pos ht, if_pos ht, hze, wrap_digits (show t - j < m + 1 by omega)]
            · rw [if_neg ht, if_neg ht, if_neg ht])
          have HQ9 := Lib.hid (HQ8.out.grown hg9 (by simp; omega))
          have HV9 := Lib.hid (HV8.out.grown hg9 (by simp; omega))
          have HB9 := Lib.hid (HB8.out.trans ((only_below hg9 (Nat.le_of_lt HR8.out.lt)).mono hwgr))
          clear hr9 hg9
          have k13 : (G : Int) - 1 = ((W / v : Nat) : Int) := by omega
          have HK13 := Lib.hid k13
          clear k13
          obtain ⟨cq, hcq⟩ := HQ9.out.at_ (show j < n - m + 1 by omega)
          have k9 : IntKind.u32.wrap ((G : Int) - 1) = (G : Int) - 1 := IntWalk.u32_in _ (by have := HQL.out; have := HK13.out; omega)
          have k10 : (0 : Int) ≤ (j : Int) := by omega
          have k11 : (j : Int) < ((n - m + 1 : Nat) : Int) := by omega
          go_wp2
          go_roundw
          case rel =>
            rw [HK13.out]
            have hp := HQ9.out.put (k := j) (F' := Lm (qcell (u / v) j)) (u := .int .u32 ((W / v : Nat) : Int)) fun t _ => by
              rw [qcell_next, HQQ.out]
            exact ⟨j, by omega, by go_num, HR9.out.grown hp.2 (by simp; omega), hp.1, HV9.out.grown hp.2 (by simp; omega), HB9.out.trans ((only_below hp.2 (Nat.le_of_lt HQ9.out.lt)).mono hwgq)⟩
          case measure => simp [intOf] <;> omega
    · obtain rfl : k = 0 := by omega
      clear HGS
      obtain ⟨p, hp⟩ : ∃ p, p = 2 ^ s := ⟨_, rfl⟩
      have hp0 : 0 < p := by rw [hp]; exact Nat.pow_pos (by omega)
      have HUV := Lib.hid (show u / v = x / y by rw [HVD.out, HUD.out]; exact Nat.mul_div_mul_left _ _ (Nat.pow_pos (by omega)))
      have HRV := Lib.hid (show u % v = 2 ^ s * (x % y) by rw [HVD.out, HUD.out]; exact Nat.mul_mod_mul_left _ _ _)
      have HR7 := Lib.hid (HR6.out.congr (F' := scell (x % y) (u % v) 0) fun t _ => by rw [← scell_zero]; unfold Lm; rw [rcell_end])
      have HQ7 := Lib.hid (HQ6.out.congr (F' := Lm (d32 (x / y))) fun t _ => by unfold Lm qcell; rw [if_neg (by omega), HUV.out])
      have HZ := Lib.hid (show d32 (u % v) m = 0 from high_zero (Nat.lt_trans (Nat.mod_lt u hv0) HFIT.out) (Nat.le_refl m))
      obtain ⟨q, hq⟩ : ∃ q, q = 2 ^ (32 - s) := ⟨_, rfl⟩
      have hpq : p * q = 4294967296 := by rw [hp, hq, ← Nat.pow_add, show s + (32 - s) = 32 by omega]
      have HDD := Lib.hid (fun i => show d32 (x % y) i = d32 (u % v) i / p + d32 (u % v) (i + 1) * q % 4294967296 by
        have h := down_digit (R := u % v) hp hpq i
        rw [HRV.out, ← hp, Nat.mul_div_cancel_left _ hp0] at h
        rw [HRV.out, ← hp]
        exact h)
      have HQ := Lib.hid (And.intro hq hpq)
      have HP := Lib.hid hp
      clear hq hpq
      clear hp HR6 HQ6 htl hnl hyt2 hyt
      go_wp2
      go_loopw [139] (fun i wr => ∃ k : Nat, k ≤ m ∧ i = .int .i64 k ∧ Hid (Arr wr gr 65 (n + 1) (scell (x % y) (u % v) k)) ∧ Hid (Arr wr gq 65 (n - m + 1) (Lm (d32 (x / y)))) ∧ Hid (Below w.heap.size w wr)) (fun i _ => m - (intOf i).toNat)
      case atStart => exact ⟨0, Nat.zero_le _, rfl, HR7, HQ7, HB6⟩
      case round =>
        obtain ⟨k, hk, rfl, HR8, HQ8, HB8⟩ := hrel
        by_cases hkm : k < m
        · obtain ⟨hck, hfk⟩ := HR8.out.at_ (show k < n + 1 by omega)
          obtain ⟨hck1, hfk1⟩ := HR8.out.at_ (show k + 1 < n + 1 by omega)
          rw [scell_at (Nat.le_refl k)] at hck
          rw [scell_at (show k ≤ k + 1 by omega)] at hck1
          have hs0 : (0 : Int) ≤ (s : Int) := by omega
          have hs1 : (s : Int) ≤ 31 := by omega
          have k0 : (0 : Int) ≤ (k : Int) := by omega
          have k1 : (k : Int) < (m : Int) := by omega
          have hv : ((d32 (u % v) k : Nat) : Int) / 2 ^ s = ((d32 (u % v) k / p : Nat) : Int) := by rw [HP.out, Int.natCast_ediv, Int.natCast_pow]; rfl
          have hput := HR8.out.put (k := k) (F' := fun t => if t = k then .int .u32 ((d32 (u % v) k / p : Nat) : Int) else scell (x % y) (u % v) k t) (u := .int .u32 ((d32 (u % v) k / p : Nat) : Int)) fun t _ => rfl
          have HPUT := Lib.hid hput
          have HVV := Lib.hid hv
          clear hput hv hfk1
          by_cases hkl : (k : Int) + 1 < (m : Int)
          · go_upto_region 27 with (fail)
            rw [HVV.out]
            have HR9 := Lib.hid HPUT.out.1
            have HQ9 := Lib.hid (HQ8.out.grown HPUT.out.2 (by simp; omega))
            have HB9 := Lib.hid (HB8.out.trans ((only_below HPUT.out.2 (Nat.le_of_lt HR8.out.lt)).mono hwgr))
            generalize wr.setCell ⟨gr, k, none⟩ (.int .u32 ((d32 (u % v) k / p : Nat) : Int)) = wy at *
            clear hck hck1 hfk HPUT HVV
            obtain ⟨hck, hfk⟩ := HR9.out.at_ (show k < n + 1 by omega)
            obtain ⟨hck1, hfk1⟩ := HR9.out.at_ (show k + 1 < n + 1 by omega)
            rw [if_pos rfl] at hck
            rw [if_neg (show ¬ k + 1 = k by omega), scell_at (show k ≤ k + 1 by omega)] at hck1
            have j0 : (0 : Int) ≤ (k : Int) + 1 := by omega
            have j1 : IntKind.i64.wrap ((k : Int) + 1) = (k : Int) + 1 := IntWalk.i64_in _ (by omega)
            have j2 : ((k : Int) + 1).toNat = k + 1 := by omega
            have j3 : IntKind.u64.wrap (32 - (s : Int)) = 32 - (s : Int) := IntWalk.u64_in _ (by omega)
            have j4 : (32 - (s : Int)).toNat = 32 - s := by omega
            have j5 : (0 : Int) ≤ 32 - (s : Int) := by omega
            have HOR := Lib.hid (or_down2 (A := x % y) (R := u % v) (k := k) HP.out HQ.out.1 HQ.out.2 hs (HDD.out k))
            have hdr : Below wy.heap.size wy wy.drew := ⟨rfl, rfl, rfl, Nat.le_refl _, fun _ _ => rfl⟩
            have HR10 := Lib.hid (HR9.out.keep hdr)
            have HQ10 := Lib.hid (HQ9.out.keep hdr)
            have HB10 := Lib.hid (HB9.out.trans (hdr.mono HB9.out.size))
            clear hdr
            go_still_tail 15, (by kernel_rfl)
            change wpList _ _ _ _ _ wy.drew
            generalize wy.drew = wz at *
            clear hck hck1 hfk hfk1
            obtain ⟨hck, hfk⟩ := HR10.out.at_ (show k < n + 1 by omega)
            go_wp2
            go_roundw
            case rel =>
              rw [HOR.out]
              have hp := HR10.out.put (k := k) (F' := scell (x % y) (u % v) (k + 1)) (u := .int .u32 (d32 (x % y) k : Int)) fun t _ => by
                rw [scell_next]
                by_cases e : t = k
                · rw [if_pos e, if_pos e]
                · rw [if_neg e, if_neg e, if_neg e]
              exact ⟨k + 1, by omega, by omega, hp.1, HQ10.out.grown hp.2 (by simp; omega), HB10.out.trans ((only_below hp.2 (Nat.le_of_lt HR10.out.lt)).mono hwgr)⟩
            case measure => simp [intOf] <;> omega
          · have hkm1 : k + 1 = m := by omega
            go_wp2
            go_roundw
            case rel =>
              rw [HVV.out]
              have hA := HDD.out k
              rw [hkm1, HZ.out, Nat.zero_mul, Nat.zero_mod, Nat.add_zero] at hA
              refine ⟨k + 1, by omega, by go_num, HPUT.out.1.congr fun t _ => ?_, HQ8.out.grown HPUT.out.2 (by simp; omega), HB8.out.trans ((only_below HPUT.out.2 (Nat.le_of_lt HR8.out.lt)).mono hwgr)⟩
              rw [scell_next, hA]
            case measure => simp [intOf] <;> omega
        · obtain rfl : k = m := by omega
          go_wp2
          go_ret2
          refine ⟨gq, gr, _, rfl, Nat.le_refl _, ?_, ?_, hwgq, hwgr, HB8.out⟩
          · simpa using HQ8.out.cells (o := 0) (n := n - k + 1) (by omega)
          · exact Cells.congr (HR8.out.cells (o := 0) (n := k) (by omega)) fun t ht => by rw [Nat.zero_add, scell_lt ht]; rfl
end Go.Proofs.YtdcmpnjhomhhiaaGreat
