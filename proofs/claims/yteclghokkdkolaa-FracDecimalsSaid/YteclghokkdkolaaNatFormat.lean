/- The walk of nat.Format. -/
import Derived.Test.YteclghokkdkolaaNatFmtP
import Derived.Test.YteclghokkdkolaaNatCopy
import Derived.Test.YteclghokkdkolaaG2
import Derived.Test.YteclghokkdkolaaNatDivMod
import Derived.Test.YteclghokkdkolaaBox
import Derived.Deep.LoopGhost
import Derived.Lib.SlBytesRow
set_option linter.unusedVariables false
namespace Go.Proofs.Yteclghokkdkolaa
open Go.RowKit

theorem Try.infoB : (Try.prog.info? 5).map (fun i => (i.zero, i.size, i.bytes)) = some (some (.int .u8 0), 1, 1) := by kernel_rfl
theorem dsmall_at {g n c M N d : Nat} {dI : Int} {F : Nat → Value} {w : World} (hd : dI = (d : Int)) (hn : 0 < n) (hn2 : n ≤ 1000) (hM : n ≤ M) (hd0 : 0 < d) (hd1 : d < 4294967296) (hN : Fit32 N n) (hA : Arr w g 43 M F) (hF : ∀ j, j < n → F j = .int .u32 (d32 N j : Int)) :
    Calls Try.prog 67 #[.slice (some ⟨g, 0, none⟩) n c, .int .u32 dI] w fun e w' => e = .returned (.int .u32 ((N % d : Nat) : Int)) ∧ Arr w' g 43 M (dcell N d n F 0) ∧ w.grownBy w' (some g) := by
  subst hd; exact dsmall_any hn hn2 hM hd0 hd1 hN hA hF

theorem run_field_nat (D : Option Addr) (n c : Nat) (w : World) : (Instr.field 24 (.agg #[.slice D n c]) 0).run Try.prog w = .ok (.slice D n c) w := by
  kernel_rfl
set_option maxHeartbeats 8000000 in
set_option maxRecDepth 100000 in
theorem nformat_any {D : Option Addr} {n c x : Nat} {w : World} (hn : n ≤ 64) (hnx : n = L32 x) (hx : Cells w D n (Lm (d32 x))) :
    Calls Try.prog 61 #[.agg #[.slice D n c]] w fun e w' => e = .returned (.string (Dc.text x)) ∧ Below w.heap.size w w' := by
  obtain ⟨i0, hi, hz0, hz1, hz2⟩ := info_parts Try.infoU
  obtain ⟨i8, hbi, hbz0, hbz1, hbz2⟩ := info_parts Try.infoB
  have hfd := run_field_nat
  have hv := Lib.hid (vd_true hn hnx)
  have HX := Lib.hid hnx
  clear hnx
  have HB0 := Lib.hid ((Below.refl w.heap.size w).alloc (Nat.le_refl _) (.cells #[.slice D n c] 24))
  have HK0 := Lib.hid (Blk.new w 24 #[.slice D n c])
  by_cases hn0 : n = 0
  · subst hn0
    have hx0 : x = 0 := L32_zero.1 HX.out.symm
    subst hx0
    go_enter Try.func61, Try.ntmps61
    go_wp2_with fail
    refine (nvalid_is (by omega) (hx.below HB0.out) hv.out).mono ?_
    rintro e w1 ⟨rfl, hb1⟩
    have HB1 := Lib.hid (Below.on HB0.out hb1)
    have HK1 := Lib.hid (HK0.out.keep hb1)
    have q0 : w1.cell? ⟨w.heap.size, 0, none⟩ = some (.slice D 0 c) := HK1.out.cell 0
    clear hb1
    go_wp2
    go_ret
    exact ⟨rfl, HB1.out⟩
  · have hnp : 0 < n := by omega
    have hx0 : x ≠ 0 := fun h => by have := HX.out; rw [h, L32_zero.2 rfl] at this; omega
    obtain ⟨ba, oa, rfl, hlta, _⟩ := hx hnp
    have hni : ((n : Nat) : Int) ≠ 0 := by omega
    have HX0 := Lib.hid hx0
    clear hx0 hn0
    go_enter Try.func61, Try.ntmps61
    go_wp2_with fail
    refine (nvalid_is (by omega) (hx.below HB0.out) hv.out).mono ?_
    rintro e w1 ⟨rfl, hb1⟩
    have HB1 := Lib.hid (Below.on HB0.out hb1)
    have HK1 := Lib.hid (HK0.out.keep hb1)
    have HC1 := Lib.hid (hx.below HB1.out)
    have q0 : w1.cell? ⟨w.heap.size, 0, none⟩ = some (.slice (some ⟨ba, oa, none⟩) n c) := HK1.out.cell 0
    have hsz1 := HK1.out.lt
    clear hb1
    go_wp2_with (at_builtin; refine wpList_append_own _ rfl _ _ 22 rfl (w.heap.size + 1) 43 i0 (.int .u32 0) 1 4 Try.underlying22 hi hz0 hz1 hz2 rfl (by decide) (.slice none 0 0) 0 [] rfl (World.ownsRow_nil _ _ _ _) ⟨ba, oa, none⟩ n c (row n (Lm (d32 x))) rfl ?c0 ?c1 ?c2 ?c3 ?c4 ?c5 ?_)
    case c0 => rw [row_length, Nat.mul_one]
    case c1 =>
      intro j u hj
      have hjn : j < n := by
        rcases Nat.lt_or_ge j n with h | h
        · exact h
        · rw [List.getElem?_eq_none (by rw [row_length]; exact h)] at hj; cases hj
      rw [row_get hjn] at hj
      injection hj with hj
      rw [← hj]
      exact HC1.out.at_add hjn
    case c2 =>
      intro u hu
      unfold row at hu
      obtain ⟨j, _, rfl⟩ := List.mem_map.1 hu
      rfl
    case c3 => unfold maxLen; omega
    case c4 => omega
    case c5 => omega
    intro v' w3 hown' hgrow _
    have HO : Hid (w3.ownsRow (w.heap.size + 1) 43 1 v' n (row (n * 1) (Lm (d32 x)))) := by
      rw [Nat.mul_one]
      try simp only [Nat.zero_add, List.nil_append] at hown'
      exact hown'
    have HB3 := Lib.hid (HB1.out.grown hgrow (by omega) fun j hj => by cases hj)
    clear hown' hgrow HC1 HK1 q0
    obtain ⟨g, cap, rfl⟩ := own_some HO.out hnp
    obtain ⟨F0, hA, hcap, hbg, hF⟩ := Arr.of_own HO.out
    have hgl := hA.lt
    have HA3 := Lib.hid hA
    have HF3 := Lib.hid hF
    clear hA hF HO
    have hB3s := HB3.out.size
    have hx64 : L32 x ≤ 64 := by rw [← HX.out]; exact hn
    go_wp2
    go_loopg [3, 4] x (fun gh s3 s4 wr => ∃ (t y : Nat) (D1 : Option Addr) (c1 : Nat) (v4 : Value), y ≤ gh ∧ s3 = .slice D1 (L32 y) c1 ∧ s4 = v4 ∧ L32 y ≤ c1 ∧ L32 y ≤ 64 ∧ t ≤ 69 ∧ Hid (y = q9 x t) ∧ Hid (0 < L32 y → L32 y ≤ cap ∧ D1 = some ⟨g, 0, none⟩ ∧ ∃ F, Arr wr g 43 cap F ∧ ∀ j, j < L32 y → F j = .int .u32 (d32 y j : Int)) ∧ Hid (wr.ownsRow w3.heap.size 5 1 v4 (9 * t) (row (9 * t * 1) (Ch x))) ∧ Hid (Below w.heap.size w wr) ∧ g < w3.heap.size ∧ w3.heap.size ≤ wr.heap.size)
    case atStart =>
      refine ⟨0, x, some ⟨g, 0, none⟩, cap, _, Nat.le_refl _, by rw [← HX.out], rfl, by rw [← HX.out]; exact hcap, hx64, by omega, Lib.hid (q9_zero x).symm, Lib.hid fun _ => ⟨by rw [← HX.out]; exact hcap, rfl, F0, HA3.out, fun j hj => HF3.out j (by rw [HX.out]; exact hj)⟩, World.ownsRow_nil _ _ _ _, HB3, hgl, Nat.le_refl _⟩
    case round =>
      obtain ⟨wo, rfl⟩ : ∃ wo : World, wo = wr := ⟨_, rfl⟩
      obtain ⟨t, y, D1, c1, v4, hgk, rfl, hs4, hlc, hl64, ht, HY, HAr, HO, HB, hgl3, hw3⟩ := hrel
      obtain rfl := hs4.symm
      by_cases hy : 0 < L32 y
      · obtain ⟨hc1, rfl, F, hA, hF⟩ := HAr.out hy
        have hy0 : 0 < y := by
          rcases Nat.eq_zero_or_pos y with h | h
          · rw [h, L32_zero.2 rfl] at hy; omega
          · exact h
        have ht68 := q9_pos (x := x) (t := t) (by rw [← HY.out]; exact hy0) hx64
        have HA := Lib.hid hA
        have HF := Lib.hid hF
        clear hA hF
        go_wp2_with fail
        refine (dsmall_at (g := g) (n := L32 y) (M := cap) (N := y) (d := 1000000000) rfl hy (by omega) hc1 (by omega) (by omega) (fit32_len y) HA.out HF.out).mono ?_
        rintro e w4 ⟨rfl, hA4, hg4⟩
        have HY2 := Lib.hid (show y / 1000000000 = q9 x (t + 1) by rw [HY.out, q9_next])
        obtain ⟨z, hz⟩ : ∃ z, z = y / 1000000000 := ⟨_, rfl⟩
        have hzy : z < y := by rw [hz]; exact Nat.div_lt_self hy0 (by omega)
        have hzl : L32 z ≤ L32 y := Nt.len_mono (by omega) (Nat.le_of_lt hzy)
        have HFZ := Lib.hid (show Fit32 z (L32 y) from fit32_of hzl)
        have HCZ := Lib.hid (show Cells w4 (some ⟨g, 0, none⟩) (L32 y) (Lm (d32 z)) from (hA4.cells (o := 0) (n := L32 y) (by rw [Nat.zero_add]; exact hc1)).congr fun j hj => by
          rw [Nat.zero_add]
          unfold dcell Lm
          rw [if_neg (by omega), if_pos hj, ← hz])
        have HFN := Lib.hid (fun j (hj : j < L32 y) => show dcell y 1000000000 (L32 y) F 0 j = .int .u32 (d32 z j : Int) by
          unfold dcell
          rw [if_neg (by omega), if_pos hj, ← hz])
        have HA4 := Lib.hid hA4
        have HO4 := Lib.hid (own_only HO.out hg4 hgl3)
        have HB4 := Lib.hid (HB.out.trans ((only_below hg4 (by omega)).mono (by omega)))
        have hw4 := hg4.size
        obtain ⟨r0, hr0⟩ : ∃ r0, r0 = y % 1000000000 := ⟨_, rfl⟩
        rw [← hr0]
        have HR0 := Lib.hid (show r0 = r9 x t 0 by rw [hr0, r9_zero, HY.out])
        have hr0l := Nat.mod_lt y (show 0 < 1000000000 by omega)
        rw [← hr0] at hr0l
        have HZ := Lib.hid hz
        clear hz hA4 hg4 HA HF HAr HO HB hr0
        go_wp2_with fail
        refine (trimmed_any (m := L32 y) (N := z) (by omega) hlc HFZ.out HCZ.out).mono ?_
        rintro e w5 ⟨D2, c2, rfl, hl2, hc2, hb5, hD2⟩
        have HA5 := Lib.hid (HA4.out.keep hb5)
        have HO5 := Lib.hid (own_keep HO4.out hb5)
        have HB5 := Lib.hid (Below.on HB4.out hb5)
        have hw5 := hb5.size
        have HC5 := Lib.hid hc2
        have HD2 := Lib.hid hD2
        clear hc2 hb5 hD2 HA4 HO4 HB4 HCZ
        unfold natv
        go_wp2
        go_loopw [4, 5, 27] (fun s4 s5 s27 wi => ∃ (i : Nat) (v5 : Value), i ≤ 9 ∧ s27 = .int .i64 (i : Int) ∧ s5 = .int .u32 (r9 x t i : Int) ∧ s4 = v5 ∧ Hid (wi.ownsRow w3.heap.size 5 1 v5 (9 * t + i) (row ((9 * t + i) * 1) (Ch x))) ∧ Hid (Arr wi g 43 cap (dcell y 1000000000 (L32 y) F 0)) ∧ Hid (Below w.heap.size w wi) ∧ w3.heap.size ≤ wi.heap.size) (fun _ _ s27 _ => 9 - (intOf s27).toNat)
        case atStart => exact ⟨0, v4, Nat.zero_le _, rfl, by rw [HR0.out], rfl, HO5, HA5, HB5, by omega⟩
        case round =>
          obtain ⟨i, v5, hi9, rfl, rfl, hs5, HOi, HAi, HBi, hwi⟩ := hrel
          obtain rfl := hs5.symm
          have hrl := r9_le x t i
          by_cases hi8' : i < 9
          · have hdg := Dc.dg_lt x (9 * t + i)
            have hrm : ((r9 x t i : Nat) : Int) % 10 = (Dc.dg x (9 * t + i) : Int) := by rw [← r9_dig x t i hi8', Int.natCast_emod]; rfl
            have hrn : ((r9 x t i : Nat) : Int) / 10 = (r9 x t (i + 1) : Int) := by rw [← r9_next x t i, Int.natCast_ediv]; rfl
            have hrl2 := r9_le x t (i + 1)
            have HN := Lib.hid (Ch_at x (9 * t + i))
            have hsw := hwi
            go_wp2_with (at_builtin; refine wpList_append_own _ rfl _ _ 79 rfl w3.heap.size 5 i8 (.int .u8 0) 1 1 Try.underlying79 hbi hbz0 hbz1 hbz2 rfl (by decide) _ _ _ rfl (HOi.out.alloc _) ⟨wr.heap.size, 0, none⟩ 1 1 [.int .u8 (48 + (Dc.dg x (9 * t + i) : Int))] rfl rfl ?c1 ?c2 ?c3 ?c4 ?c5 ?_)
            try case c1 => exact fun j u hu => new_cell rfl (by simpa using hu)
            try case c2 => first | rfl | (intro u hu; simp at hu; subst hu; rfl)
            case c3 => unfold maxLen; omega
            case c4 => omega
            try case c5 => first | omega | (simp; omega)
            intro v6 w6 hown' hgrow _
            have hlo : ∀ j, v5.ownBlock = some j → w3.heap.size ≤ j := fun j hj => (HOi.out.lt j hj).1
            have HB6 := Lib.hid ((HBi.out.alloc HBi.out.size (.cells #[.int .u8 (48 + (Dc.dg x (9 * t + i) : Int))] 5)).grown hgrow (by simp; omega) fun j hj => by have := hlo j hj; omega)
            have HA6 := Lib.hid (Arr.grown (Blk.alloc HAi.out (.cells #[.int .u8 (48 + (Dc.dg x (9 * t + i) : Int))] 5)) hgrow (by intro e; have := hlo _ e.symm; omega))
            have hw6 : w3.heap.size ≤ w6.heap.size := by have := hgrow.size; simp at this; omega
            have HO6 : Hid (w6.ownsRow w3.heap.size 5 1 v6 (9 * t + (i + 1)) (row ((9 * t + (i + 1)) * 1) (Ch x))) := by
              rw [Nat.mul_one, ← Nat.add_assoc, row_one, HN.out]
              first | exact hown' | (rw [Nat.mul_one] at hown'; exact hown')
            clear hown' hgrow HOi HAi HBi hlo
            go_wp2
            go_roundw
            case rel => exact ⟨i + 1, v6, by omega, by go_num, rfl, rfl, HO6, HA6, HB6, hw6⟩
            case measure => simp [intOf]; omega
          · obtain rfl : i = 9 := by omega
            go_wp2_with fail
            go_roundg z
            case measure => omega
            case rel =>
              refine ⟨t + 1, z, D2, c2, v5, Nat.le_refl _, rfl, rfl, hl2, by omega, by omega, Lib.hid (by rw [HZ.out]; exact HY2.out), Lib.hid fun hz0 => ?_, HOi, HBi, hgl3, hwi⟩
              obtain ⟨_, _, e2, _, _⟩ := HC5.out hz0
              rcases HD2.out with rfl | rfl
              · cases e2
              · exact ⟨Nat.le_trans hzl hc1, rfl, _, HAi.out, fun j hj => HFN.out j (by omega)⟩
      · have hz : L32 y = 0 := by omega
        have hyz : y = 0 := L32_zero.1 hz
        have hx10 := Lib.hid (q9_end (x := x) (t := t) (by rw [← HY.out]; exact hyz))
        have ht0 : 0 < t := by
          rcases Nat.eq_zero_or_pos t with h | h
          · exfalso
            rw [h] at hx10
            have := hx10.out
            have := HX0.out
            omega
          · exact h
        have hzi : ((L32 y : Nat) : Int) = 0 := by omega
        obtain ⟨gd, capd, hvd⟩ := own_some HO.out (show 0 < 9 * t by omega)
        obtain rfl := hvd.symm
        obtain ⟨Fd, hAd, hcapd, hbgd, hFd⟩ := Arr.of_own HO.out
        have HAd := Lib.hid hAd
        have HFd := Lib.hid hFd
        obtain ⟨m, hm⟩ : ∃ m, m = 9 * t := ⟨_, rfl⟩
        rw [← hm] at hx10 hcapd HFd ⊢
        have hm9 : 9 ≤ m ∧ m ≤ 621 := by omega
        obtain ⟨hm1, hm2⟩ := hm9
        have HXT := Lib.hid (fun k (h : x < 10 ^ k) (hk : 1 ≤ k) (hd : k = 1 ∨ Dc.dg x (k - 1) ≠ 0) => len_of (x := x) HX0.out h hk hd)
        clear hz hyz hm hAd hFd HO HAr ht0
        go_wp2
        go_loop [6] (fun s6 => ∃ k : Nat, 1 ≤ k ∧ k ≤ m ∧ s6 = .int .i64 (k : Int) ∧ Hid (x < 10 ^ k)) (fun s6 => (intOf s6).toNat)
        case atStart => exact ⟨m, by omega, Nat.le_refl _, by go_num, hx10⟩
        case round =>
          obtain ⟨k, hk1, hkm, rfl, HK⟩ := hrel
          by_cases hk2 : 1 < k
          · obtain ⟨hcd, _⟩ := HAd.out.at_ (show k - 1 < capd by omega)
            rw [HFd.out (k - 1) (by omega), Ch_at] at hcd
            have ek : ((k : Nat) : Int) - 1 = ((k - 1 : Nat) : Int) := by omega
            have hk1i : (1 : Int) < (k : Int) := by omega
            have hka : ((k - 1 : Nat) : Int) < (m : Int) := by omega
            by_cases hd : Dc.dg x (k - 1) = 0
            · have hcd2 : wo.cell? ⟨gd, k - 1, none⟩ = some (.int .u8 48) := by rw [hcd, hd]; rfl
              have HK2 := Lib.hid (dig_down HK.out (by omega) hd)
              clear hcd hd
              go_wp2
              go_round
              case rel => exact ⟨k - 1, by omega, by omega, by first | rfl | go_num, HK2⟩
              case measure => simp [intOf]; omega
            · have HLN := Lib.hid (HXT.out k HK.out hk1 (.inr hd))
              have hdt : ((48 + (Dc.dg x (k - 1) : Int)) == 48) = false := by simp; omega
              have hdl := Dc.dg_lt x (k - 1)
              clear hd
              go_wp2
              go_loopw [7, 8] (fun s7 s8 wr => ∃ i : Nat, 2 * i ≤ k ∧ s7 = .int .i64 (i : Int) ∧ s8 = .int .i64 ((k : Int) - 1 - (i : Int)) ∧ Hid (Arr wr gd 5 capd (rcv x k i Fd)) ∧ Hid (Below w.heap.size w wr)) (fun s7 _ _ => k - (intOf s7).toNat)
              case atStart => exact ⟨0, by omega, rfl, congrArg _ (by omega), HAd.out.congr fun j _ => (rcv_zero x k Fd (fun j hj => HFd.out j (by omega)) j).symm, HB⟩
              case round =>
                obtain ⟨i, hik, rfl, rfl, HA, HBr⟩ := hrel
                by_cases hlt : 2 * i + 1 < k
                · obtain ⟨j, hj⟩ : ∃ j, i + j + 1 = k := ⟨k - 1 - i, by omega⟩
                  have ej : (k : Int) - 1 - (i : Int) = (j : Int) := by omega
                  rw [ej]
                  have hij : i < j := by omega
                  obtain ⟨ci, fi⟩ := HA.out.at_ (show i < capd by omega)
                  rw [rcv_mid (Nat.le_refl i) (by omega), Ch_at] at ci
                  obtain ⟨cj, fj⟩ := HA.out.at_ (show j < capd by omega)
                  rw [rcv_mid (by omega) (by omega), Ch_at] at cj
                  have hne : i ≠ j := by omega
                  have hne2 : j ≠ i := by omega
                  have hdi := Dc.dg_lt x i
                  have hdj := Dc.dg_lt x j
                  have i0' : (0 : Int) ≤ (i : Int) := by omega
                  have j0' : (0 : Int) ≤ (j : Int) := by omega
                  have iki : (i : Int) < (k : Int) := by omega
                  have jki : (j : Int) < (k : Int) := by omega
                  have iji : (i : Int) < (j : Int) := by omega
                  have HJ := Lib.hid hj
                  clear ej hj hlt
                  go_wp2
                  go_region
                  all_goals
                    go_wp2
                    go_roundw
                    case rel =>
                      have hp1 := HA.out.put (k := i) (F' := fun t => if t = i then Ch x j else rcv x k i Fd t) (u := .int .u8 (48 + (Dc.dg x j : Int))) fun t _ => rfl
                      have hp2 := hp1.1.put (k := j) (F' := rcv x k (i + 1) Fd) (u := .int .u8 (48 + (Dc.dg x i : Int))) fun t _ => rcv_next Fd HJ.out hij t
                      exact ⟨i + 1, by have := HJ.out; omega, by go_num, congrArg _ (by have := HJ.out; omega), hp2.1, (HBr.out.trans ((only_below (grown_on hp1.2 hp2.2) (Nat.le_of_lt HA.out.lt)).mono (by omega))).drew⟩
                    case measure => simp [intOf]; omega
                · have hts : (Dc.text x).size = k := by rw [Dc.text_size, if_neg HX0.out, HLN.out]
                  have hby : Lib.Bytes wr gd 0 (Dc.text x) := fun t ht => by
                    have htk : t < k := by rw [← hts]; exact ht
                    rw [Nat.zero_add, (HA.out.at_ (show t < capd by omega)).1, rcv_end (by omega) hik htk, Ch_at, text_bytes HX0.out HLN.out ht]
                  have hcv := Lib.run_convert_whole (P := Try.prog) wr 79 5 9 Try.underlying79 Try.underlying5 Try.underlying9 gd 0 (Dc.text x) hby k
                  rw [hts] at hcv
                  clear hts hby
                  go_wp2
                  go_ret
                  exact ⟨rfl, HBr.out⟩
          · have HLN := Lib.hid (HXT.out k HK.out hk1 (.inl (by omega)))
            have hk1i : (k : Int) ≤ 1 := by omega
            go_wp2
            go_loopw [7, 8] (fun s7 s8 wr => ∃ i : Nat, 2 * i ≤ k ∧ s7 = .int .i64 (i : Int) ∧ s8 = .int .i64 ((k : Int) - 1 - (i : Int)) ∧ Hid (Arr wr gd 5 capd (rcv x k i Fd)) ∧ Hid (Below w.heap.size w wr)) (fun s7 _ _ => k - (intOf s7).toNat)
            case atStart => exact ⟨0, by omega, rfl, congrArg _ (by omega), HAd.out.congr fun j _ => (rcv_zero x k Fd (fun j hj => HFd.out j (by omega)) j).symm, HB⟩
            case round =>
              obtain ⟨i, hik, rfl, rfl, HA, HBr⟩ := hrel
              by_cases hlt : 2 * i + 1 < k
              · obtain ⟨j, hj⟩ : ∃ j, i + j + 1 = k := ⟨k - 1 - i, by omega⟩
                have ej : (k : Int) - 1 - (i : Int) = (j : Int) := by omega
                rw [ej]
                have hij : i < j := by omega
                obtain ⟨ci, fi⟩ := HA.out.at_ (show i < capd by omega)
                rw [rcv_mid (Nat.le_refl i) (by omega), Ch_at] at ci
                obtain ⟨cj, fj⟩ := HA.out.at_ (show j < capd by omega)
                rw [rcv_mid (by omega) (by omega), Ch_at] at cj
                have hne : i ≠ j := by omega
                have hne2 : j ≠ i := by omega
                have hdi := Dc.dg_lt x i
                have hdj := Dc.dg_lt x j
                have i0' : (0 : Int) ≤ (i : Int) := by omega
                have j0' : (0 : Int) ≤ (j : Int) := by omega
                have iki : (i : Int) < (k : Int) := by omega
                have jki : (j : Int) < (k : Int) := by omega
                have iji : (i : Int) < (j : Int) := by omega
                have HJ := Lib.hid hj
                clear ej hj hlt
                go_wp2
                go_region
                all_goals
                  go_wp2
                  go_roundw
                  case rel =>
                    have hp1 := HA.out.put (k := i) (F' := fun t => if t = i then Ch x j else rcv x k i Fd t) (u := .int .u8 (48 + (Dc.dg x j : Int))) fun t _ => rfl
                    have hp2 := hp1.1.put (k := j) (F' := rcv x k (i + 1) Fd) (u := .int .u8 (48 + (Dc.dg x i : Int))) fun t _ => rcv_next Fd HJ.out hij t
                    exact ⟨i + 1, by have := HJ.out; omega, by go_num, congrArg _ (by have := HJ.out; omega), hp2.1, (HBr.out.trans ((only_below (grown_on hp1.2 hp2.2) (Nat.le_of_lt HA.out.lt)).mono (by omega))).drew⟩
                  case measure => simp [intOf]; omega
              · have hts : (Dc.text x).size = k := by rw [Dc.text_size, if_neg HX0.out, HLN.out]
                have hby : Lib.Bytes wr gd 0 (Dc.text x) := fun t ht => by
                  have htk : t < k := by rw [← hts]; exact ht
                  rw [Nat.zero_add, (HA.out.at_ (show t < capd by omega)).1, rcv_end (by omega) hik htk, Ch_at, text_bytes HX0.out HLN.out ht]
                have hcv := Lib.run_convert_whole (P := Try.prog) wr 79 5 9 Try.underlying79 Try.underlying5 Try.underlying9 gd 0 (Dc.text x) hby k
                rw [hts] at hcv
                clear hts hby
                go_wp2
                go_ret
                exact ⟨rfl, HBr.out⟩
end Go.Proofs.Yteclghokkdkolaa
