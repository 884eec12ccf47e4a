/- The law FairnessArranges. -/
import Derived.Test.YtiflmnmkmpjecaaFaUn
import Derived.Test.YtiflmnmkmpjecaaFaAwake
import Derived.Test.YtiflmnmkmpjecaaG12
import Derived.Test.YtiflmnmkmpjecaaFrRMake
import Derived.Test.YtiflmnmkmpjecaaRows
set_option linter.unusedVariables false
namespace Go.Proofs.Ytiflmnmkmpjecaa
open Go.RowKit
namespace Fa
open Fr
theorem Try.infoBo : (Try.prog.info? 4).map (fun i => (i.zero, i.size, i.bytes)) = some (some (.bool false), 1, 1) := by kernel_rfl
theorem wi64 {z : Nat} (h : z ≤ 1000) : IntKind.i64.wrap (z : Int) = (z : Int) := IntWalk.i64_in _ (by omega)
theorem wu64 {z : Nat} (h : z ≤ 1000) : IntKind.u64.wrap (z : Int) = (z : Int) := IntWalk.u64_in _ (by omega)
theorem wu8_all : ∀ z, z < 256 → IntKind.u8.wrap ((z : Nat) : Int) = (z : Int) := by decide +kernel
theorem wu8 {z : Nat} (h : z ≤ 255) : IntKind.u8.wrap (z : Int) = (z : Int) := wu8_all z (by omega)
theorem res_out {B : Nat} {w' : World} {e : Ending} {p q : Nat} (h : Res B w' e p q) : ∃ (D : Option Addr) (l c : Nat) (E : Option Addr) (m c' : Nat), e = .returned (.tuple #[.agg #[.slice D l c, .slice E m c'], .int .i64 0]) ∧ Hid (l = L32 p) ∧ Hid (m = L32 q) ∧ Cells w' D l (Lm (d32 p)) ∧ Cells w' E m (Lm (d32 q)) ∧ Fresh B D ∧ Fresh B E := by
  obtain ⟨D, c, E, c', rfl, _, _, h1, h2, h3, h4⟩ := h
  exact ⟨D, _, c, E, _, c', rfl, Lib.hid rfl, Lib.hid rfl, h1, h2, h3, h4⟩
theorem pl_step {L : List Nat} {j p : Nat} (hj : j < L.length) (hp : p = L.getD j 0) (h1 : 1 ≤ p) (q : Nat) : Bl (pl (L.take (j + 1))) q = if q = p - 1 then .bool true else Bl (pl (L.take j)) q := by
  have e : L[j] = p := by rw [hp, List.getD_eq_getElem?_getD, List.getElem?_eq_getElem hj]; rfl
  unfold Bl pl
  rw [List.take_succ_eq_append_getElem hj, e]
  by_cases h : q = p - 1
  · rw [if_pos h]
    have : q + 1 = p := by omega
    simp [this]
  · rw [if_neg h]
    have : ¬ (q + 1 = p) := by omega
    simp [this]
set_option maxHeartbeats 16000000 in
set_option maxRecDepth 100000 in
theorem arr_main {W : World} {av bv rv x y xy y11 R : Nat} (hx : x < 11) (hy : y < y11) (hxy : xy = x + y) (h11 : y11 = 11 - x) (hR : R < 12) (hbv : bv ≤ 255) (a1 : (av : Int).tmod 11 = (x : Int)) (a2 : (bv : Int).tmod (y11 : Int) = (y : Int)) (a3 : (rv : Int).tmod 12 = (R : Int)) :
    Calls Try.prog 10 #[.int .u8 (av : Int), .int .u8 (bv : Int), .int .u8 (rv : Int)] W fun e w' => e = .returned (.bool true) ∧ Below W.heap.size W w' := by
  have AW : Hid (∀ w', Calls Try.prog 11 #[] w' fun e w'' => e = .returned (.bool true) ∧ Below w'.heap.size w' w'') := Lib.hid awake_any
  obtain ⟨i0, hi, hz0, hz1, hz2⟩ := info_parts Try.infoBo
  have b1 := wu8 (z := x) (by omega)
  have b3 := wu8 (z := R) (by omega)
  have c1 := wi64 (z := x) (by omega)
  have c2 := wi64 (z := bv) (by omega)
  have c3 := wi64 (z := y) (by omega)
  have c4 := wi64 (z := R) (by omega)
  have d1 : IntKind.i64.wrap (11 - (x : Int)) = (y11 : Int) := by rw [show 11 - (x : Int) = (y11 : Int) by omega]; exact wi64 (by omega)
  have d2 : IntKind.i64.wrap ((x : Int) + (y : Int)) = (xy : Int) := by rw [show (x : Int) + (y : Int) = (xy : Int) by omega]; exact wi64 (by omega)
  have n2 : ((y11 : Int) == 0) = false := by
    simp
    omega
  have n3 : ¬ ((y11 : Int) = 0) := by omega
  obtain ⟨C, hC⟩ : ∃ C, C = cb xy x := ⟨_, rfl⟩
  have hz : cz xy (x : Int) = C := by unfold cz; rw [if_pos (by omega), hC]; rfl
  have K1 := fun w => rcount_sm w (n := xy) (by omega) (x : Int)
  rw [hz] at K1
  have HK1 := Lib.hid K1
  have hC2 : C ≤ 252 := by rw [hC]; exact cb_252 xy (by omega) x (by omega)
  have HC := Lib.hid (show C ≤ 252 ∧ C = cb xy x ∧ 0 < C from ⟨hC2, hC, by rw [hC]; exact cb_pos (by omega)⟩)
  have HX := Lib.hid (show x < 11 ∧ y < 11 - x ∧ xy = x + y ∧ R < 12 ∧ xy ≤ 10 from ⟨hx, by omega, hxy, hR, by omega⟩)
  obtain ⟨Mn, hMn⟩ : ∃ v, v = rc x y (R : Int) := ⟨_, rfl⟩
  have HMN : Hid (cnt x y R C = Mn) := Lib.hid (by rw [hMn, hC, hxy]; exact cnt_all x hx y (by omega) R hR)
  have RCH := fun w => runs_any w (a := x) (b := y) (R : Int) (by omega) (by omega)
  rw [← hMn, ← hxy, ← hC] at RCH
  have HRC := Lib.hid RCH
  have x10 : x ≤ 10 := by omega
  clear K1 hz hC hC2 hMn RCH hx hy hxy h11 hR hbv
  go_enter Try.func10, Try.ntmps10
  go_wp2_with fail
  refine (HK1.out _).mono ?_
  rintro e w1 ⟨rfl, hw1⟩
  obtain rfl := hw1
  go_wp2
  go_loopw [39, 11] (fun s39 s11 wr => ∃ i : Nat, i ≤ C ∧ s39 = .int .i64 (i : Int) ∧ s11 = .int .i64 ((cnt x y R i : Nat) : Int) ∧ Hid (Below W.heap.size W wr)) (fun i _ _ => C - (intOf i).toNat)
  case atStart => exact ⟨0, Nat.zero_le _, rfl, rfl, Lib.hid (Below.refl _ _)⟩
  case round =>
    obtain ⟨i, hi', rfl, rfl, HB⟩ := hrel
    obtain ⟨M, hM⟩ : ∃ v, v = cnt x y R i := ⟨_, rfl⟩
    rw [← hM]
    have hcl : ∀ i, cnt x y R i ≤ i := fun i => by
      induction i with
      | zero => exact Nat.le_refl _
      | succ i ih => rw [cnt]; split <;> omega
    have hMi : M ≤ i := by rw [hM]; exact hcl i
    have C252 := HC.out.1
    by_cases hic : i < C
    · have g1 : ((i : Int) < (C : Int)) := by omega
      have w5 : IntKind.i64.wrap ((i : Int) + 1) = (i : Int) + 1 := IntWalk.i64_in _ (by omega)
      have w6 : IntKind.i64.wrap ((M : Int) + 1) = ((M + 1 : Nat) : Int) := by rw [IntWalk.i64_in _ (by omega)]; rfl
      have KU := unrank_sm wr (n := xy) (k := x) (r := i) HX.out.2.2.2.2 (by have := HX.out.2.2.1; omega) (by rw [← HC.out.2.1]; exact hic)
      obtain ⟨L, hL⟩ : ∃ L, L = (ur xy x i xy).2 := ⟨_, rfl⟩
      have hmem : ∀ p, p ∈ L → 1 ≤ p ∧ p ≤ xy := fun p hp => by rw [hL] at hp; exact ur_mem xy p hp
      have hll : L.length ≤ x := by rw [hL]; exact ur_len xy
      rw [← hL] at KU
      have HNX : Hid (cnt x y R (i + 1) = M + if rn (pl L) xy = R then 1 else 0) := Lib.hid (by rw [cnt, ← HX.out.2.2.1, ← hL, ← hM])
      obtain ⟨m, hm⟩ : ∃ m, m = L.length := ⟨_, rfl⟩
      rw [← hm] at KU hll
      have HKU := Lib.hid KU
      have HME := Lib.hid hmem
      have HM := Lib.hid (show m = L.length ∧ m ≤ 10 from ⟨hm, by omega⟩)
      have HIC := Lib.hid (show i < C ∧ C ≤ 252 from ⟨hic, C252⟩)
      clear KU hL hmem hll hm hM hMi hcl hic hi' C252
      go_wp2_with fail
      refine HKU.out.mono ?_
      rintro e w3 ⟨⟨D, c, rfl, hc⟩, hb⟩
      have HB3 := Lib.hid (Below.on HB.out hb)
      have HD3 := Lib.hid hc
      clear hb hc
      have hsz3 := HB3.out.size
      have xy10 := HX.out.2.2.2.2
      go_wp2_with (at_make; refine wpList_make_full _ rfl _ _ 43 rfl W.heap.size 4 i0 (.bool false) 1 Try.underlying43 hi hz0 hz1 _ _ _ _ xy rfl rfl ?c1 ?c2 ?c3 ?c4 ?c5 ?_)
      case c1 => first | omega | rfl
      case c2 => first | omega | rfl
      case c3 => rw [hz2]; omega
      case c4 => unfold maxLen; omega
      case c5 => first | omega | exact hsz3
      intro w4 hown1 hgr1
      have HB4 : Hid (Below W.heap.size W w4) := Lib.hid (HB3.out.grown hgr1 hsz3 (by simp))
      have hgl := (hown1.lt _ rfl).2
      have HO := Lib.hid (own_congr (F' := Bl (pl (L.take 0))) (made_own (z := .bool false) hown1) fun j hj => rfl)
      have HD4 := Lib.hid (HD3.out.below ((Below.refl _ _).grown hgr1 (Nat.le_refl _) (by simp)))
      clear hown1 hgr1
      obtain ⟨g, hg⟩ : ∃ g, g = w3.heap.size := ⟨_, rfl⟩
      have HGW := Lib.hid (show W.heap.size ≤ g by omega)
      have HOF := Lib.hid (Off.of_cells HD3.out (show w3.heap.size ≤ g by omega))
      rw [show (some (⟨w3.heap.size, 0, none⟩ : Addr)) = some ⟨g, 0, none⟩ by rw [hg]] at HO ⊢
      rw [← hg] at hgl
      clear hg
      go_wp2
      go_loopw [57] (fun s57 ws => ∃ j : Nat, j ≤ m ∧ s57 = .int .i64 (j : Int) ∧ Hid (ws.ownsRow W.heap.size 4 1 (.slice (some ⟨g, 0, none⟩) xy xy) xy (row (xy * 1) (Bl (pl (L.take j))))) ∧ Hid (Below W.heap.size W ws) ∧ g < ws.heap.size ∧ Hid (Cells ws D m (Dg fun i => L.getD i 0))) (fun i _ => m - (intOf i).toNat)
      case atStart => exact ⟨0, Nat.zero_le _, rfl, HO, HB4, hgl, HD4⟩
      case round =>
        rename World => ws
        clear HO HB4 hgl HD4
        obtain ⟨j, hj, rfl, HO, HB4, hgl, HD4⟩ := hrel
        by_cases hjm : j < m
        · have g2 : ((j : Int) < (m : Int)) := by omega
          have i1 : (0 : Int) ≤ (j : Int) := by omega
          obtain ⟨b2, o2, hD2, hlt2, hc2⟩ := HD4.out.dg hjm
          obtain ⟨p, hp⟩ : ∃ p, p = L.getD j 0 := ⟨_, rfl⟩
          rw [← hp] at hc2
          have hpm : p ∈ L := by
            rw [hp, List.getD_eq_getElem?_getD, List.getElem?_eq_getElem (by rw [← HM.out.1]; exact hjm)]
            exact List.getElem_mem _
          have hp2 := HME.out p hpm
          obtain ⟨p1, hp1⟩ : ∃ v, v = p - 1 := ⟨_, rfl⟩
          have w7 : IntKind.i64.wrap ((p : Int) - 1) = (p1 : Int) := by rw [IntWalk.i64_in _ (by omega)]; omega
          have w8 : IntKind.i64.wrap ((j : Int) + 1) = (j : Int) + 1 := IntWalk.i64_in _ (by have := HM.out.2; omega)
          have i2 : (0 : Int) ≤ (p1 : Int) := by omega
          have i3 : (p1 : Int) < (xy : Int) := by omega
          obtain ⟨hq, hf⟩ := own_at HO.out (show p1 < xy by omega)
          have HPUT := Lib.hid (own_put (u := .bool true) (F' := Bl (pl (L.take (j + 1)))) (k := p1) HO.out fun q hq => by rw [hp1]; exact pl_step (by rw [← HM.out.1]; exact hjm) hp hp2.1 q)
          have HD5 := Lib.hid (HD4.out.off HOF.out p1 (.bool true))
          have HB5 := Lib.hid (bse HB4.out HGW.out p1 (.bool true))
          have HJM := Lib.hid hjm
          obtain ⟨fv', hfv⟩ : ∃ v, v = Bl (pl (L.take j)) p1 := ⟨_, rfl⟩
          rw [← hfv] at hq
          subst hD2
          clear hp hpm hp2 hp1 hj hjm hfv HO HD4 HB4
          go_wp2
          go_roundw
          case rel => exact ⟨j + 1, by have := HJM.out; omega, by go_num, Lib.hid HPUT.out.1, HB5, by simpa using hgl, HD5⟩
          case measure => have := HJM.out; simp [intOf] <;> omega
        · obtain rfl : j = m := by omega
          have g2 : ((j : Int) < (j : Int)) = False := eq_false (by omega)
          have hT : L.take j = L := by rw [HM.out.1, List.take_length]
          rw [hT] at HO
          have hcc := Cells.of_own HO.out
          rw [Nat.mul_one] at hcc
          have HCC := Lib.hid hcc
          obtain ⟨V, hV⟩ : ∃ V, V = rn (pl L) xy := ⟨_, rfl⟩
          have HV := Lib.hid hV
          have KR := runs_num (c := xy) (f := pl L) (show xy ≤ 1000000 by omega) HCC.out
          rw [← hV] at KR HNX
          have HKR := Lib.hid KR
          have hd : (((V : Int) == (R : Int)) = true ∧ V = R) ∨ (((V : Int) == (R : Int)) = false ∧ ¬ V = R) := by
            by_cases h : V = R
            · exact .inl ⟨by simp [h], h⟩
            · refine .inr ⟨?_, h⟩
              have : ¬ ((V : Int) = (R : Int)) := by omega
              simp
              exact this
          clear KR hV hT hcc hj hjm
          go_wp2_with fail
          refine HKR.out.mono ?_
          rintro e w7 ⟨rfl, hb⟩
          have HB7 := Lib.hid (Below.on HB4.out hb)
          clear hb HB4 HO HD4
          rcases hd with ⟨t1, t2⟩ | ⟨t1, t2⟩
          · have HN2 : Hid (cnt x y R (i + 1) = M + 1) := Lib.hid (by rw [HNX.out, if_pos t2])
            clear t2 HNX
            go_wp2
            go_roundw
            case rel => exact ⟨i + 1, by have := HIC.out.1; omega, by go_num, by rw [HN2.out]; rfl, HB7⟩
            case measure => have := HIC.out; simp [intOf] <;> omega
          · have HN2 : Hid (cnt x y R (i + 1) = M) := Lib.hid (by rw [HNX.out, if_neg t2]; rfl)
            clear t2 HNX
            go_wp2
            go_roundw
            case rel => exact ⟨i + 1, by have := HIC.out.1; omega, by go_num, by rw [HN2.out], HB7⟩
            case measure => have := HIC.out; simp [intOf] <;> omega
    · obtain rfl : i = C := by omega
      have g1 : ((i : Int) < (i : Int)) = False := eq_false (by omega)
      have hMM : M = Mn := by rw [hM, HMN.out]
      subst hMM
      have hM9 : M ≤ 252 := by omega
      have w6 := wu64 (z := M) (by omega)
      have w7 := wu64 (z := i) (by omega)
      have lM : L32 M ≤ 64 := Nat.le_trans (fit32_le (fit_of (x := M) (by omega))) (by omega)
      have lC : L32 i ≤ 64 := Nat.le_trans (fit32_le (fit_of (x := i) (by omega))) (by omega)
      have HLL := Lib.hid (show L32 M ≤ 64 ∧ L32 i ≤ 64 from ⟨lM, lC⟩)
      have HO2 := Lib.hid fun w => rof_new M (by omega) w
      have HO3 := Lib.hid fun w => rof_new i (by omega) w
      obtain ⟨p, hp⟩ : ∃ v, v = M / Nat.gcd M i := ⟨_, rfl⟩
      obtain ⟨q, hq⟩ : ∃ v, v = i / Nat.gcd M i := ⟨_, rfl⟩
      rw [← hp, ← hq] at HRC
      have HPQ := Lib.hid (show p = M / Nat.gcd M i ∧ q = i / Nat.gcd M i from ⟨hp, hq⟩)
      have h64 : L32 p ≤ 64 ∧ L32 q ≤ 64 := ⟨by rw [hp]; exact len_div lM, by rw [hq]; exact len_div lC⟩
      have H64 := Lib.hid h64
      have BSr := Lib.hid (show Bs W wr [] from ⟨HB.out, fun _ _ _ h => by cases h⟩)
      clear hM hMi hcl hic hi' C252 hM9 lM lC hp hq h64
      go_wp2_with fail
      (with_reducible refine (HRC.out _).mono ?_)
      rintro e w2 ⟨hr, hb⟩
      obtain ⟨D1, l1, y1, E1, m1, k1, rfl, L1, M1, hc, hd, _, _⟩ := res_out hr
      have BQ1 := Lib.hid (BSr.out.on hb)
      have BS1 := Lib.hid (BQ1.out.alloc TF #[.slice D1 l1 y1, .slice E1 m1 k1])
      have X1 := Lib.hid (hc.alloc (.cells #[.slice D1 l1 y1, .slice E1 m1 k1] TF))
      have Y1 := Lib.hid (hd.alloc (.cells #[.slice D1 l1 y1, .slice E1 m1 k1] TF))
      clear hb hc hd hr BSr BQ1
      go_wp2_with fail
      (with_reducible refine (HO2.out _).mono ?_)
      rintro e w3 ⟨D2, c2', rfl, _, hc2, _, hb⟩
      obtain ⟨l2, hl2⟩ : ∃ l, l = L32 M := ⟨_, rfl⟩
      rw [← hl2] at hc2 ⊢
      have L2 := Lib.hid hl2
      have BS2 := Lib.hid (BS1.out.on hb)
      have X2 := Lib.hid hc2
      replace X1 := Lib.hid (X1.out.below hb)
      replace Y1 := Lib.hid (Y1.out.below hb)
      clear hb hc2 hl2 BS1
      go_wp2_with fail
      (with_reducible refine (HO3.out _).mono ?_)
      rintro e w4 ⟨D3, c3', rfl, _, hc3, _, hb⟩
      obtain ⟨l3, hl3⟩ : ∃ l, l = L32 i := ⟨_, rfl⟩
      rw [← hl3] at hc3 ⊢
      have L3 := Lib.hid hl3
      have BS3 := Lib.hid (BS2.out.on hb)
      have X3 := Lib.hid hc3
      replace X1 := Lib.hid (X1.out.below hb)
      replace Y1 := Lib.hid (Y1.out.below hb)
      replace X2 := Lib.hid (X2.out.below hb)
      clear hb hc3 hl3 BS2
      have KM := rmake_any (c := c2') (c' := c3') (x := M) (y := i) (by rw [L2.out]; exact HLL.out.1) (by rw [L3.out]; exact HLL.out.2) L2.out L3.out X2.out X3.out HC.out.2.2
      rw [← HPQ.out.1, ← HPQ.out.2] at KM
      unfold natv at KM
      have HKM := Lib.hid KM
      clear KM
      go_wp2_with fail
      refine HKM.out.mono ?_
      rintro e w5 ⟨hr, hb⟩
      obtain ⟨D4, l4, y4, E4, m4, k4, rfl, L4, M4, hc, hd, _, _⟩ := res_out hr
      have BQ4 := Lib.hid (BS3.out.on hb)
      have BS4 := Lib.hid (BQ4.out.alloc TF #[.slice D4 l4 y4, .slice E4 m4 k4])
      have X4 := Lib.hid (hc.alloc (.cells #[.slice D4 l4 y4, .slice E4 m4 k4] TF))
      have Y4 := Lib.hid (hd.alloc (.cells #[.slice D4 l4 y4, .slice E4 m4 k4] TF))
      replace X1 := Lib.hid ((X1.out.below hb).alloc (.cells #[.slice D4 l4 y4, .slice E4 m4 k4] TF))
      replace Y1 := Lib.hid ((Y1.out.below hb).alloc (.cells #[.slice D4 l4 y4, .slice E4 m4 k4] TF))
      clear hb hc hd hr BS3
      obtain ⟨_, la, ka⟩ := BQ4.out.get (.head _)
      have q0 : w5.cell? ⟨w2.heap.size, 0, none⟩ = some (.slice D1 l1 y1) := ka.cell 0
      have q1 : w5.cell? ⟨w2.heap.size, 1, none⟩ = some (.slice E1 m1 k1) := ka.cell 1
      have s1 : l1 ≤ 1000 := by rw [L1.out]; have := H64.out.1; omega
      have s2 : m1 ≤ 1000 := by rw [M1.out]; have := H64.out.2; omega
      have s3 : l4 ≤ 1000 := by rw [L4.out]; have := H64.out.1; omega
      have s4 : m4 ≤ 1000 := by rw [M4.out]; have := H64.out.2; omega
      clear ka BQ4
      go_wp2_with fail
      refine (same_eq s1 s2 s3 s4 L1.out M1.out L4.out M4.out X1.out Y1.out X4.out Y4.out).mono ?_
      rintro e w6 ⟨rfl, hb⟩
      have BS6 := Lib.hid (BS4.out.on hb)
      clear hb q0 q1 la BS4
      go_wp2_with fail
      refine (AW.out _).mono ?_
      rintro e w7 ⟨rfl, hb⟩
      have HB7 := Lib.hid (BS6.out.on hb).below
      clear hb
      go_wp2
      go_ret
      exact ⟨rfl, HB7.out⟩
end Fa
theorem fairnessArranges_walk (W : World) (a : Int) (wa : (Lit.int .u8 a).wf = true) (b : Int) (wb : (Lit.int .u8 b).wf = true) (r : Int) (wr : (Lit.int .u8 r).wf = true) :
    Calls Try.prog 10 #[.int .u8 a, .int .u8 b, .int .u8 r] W fun e w' => e = .returned (.bool true) ∧ Below W.heap.size W w' := by
  have h : ∀ {z : Int}, (Lit.int .u8 z).wf = true → 0 ≤ z ∧ z ≤ 255 := fun {z} h => by
    have h1 : IntKind.u8.min ≤ z ∧ z ≤ IntKind.u8.max := by simpa [Lit.wf] using h
    exact h1
  obtain ⟨a, rfl⟩ := Int.eq_ofNat_of_zero_le (h wa).1
  obtain ⟨b, rfl⟩ := Int.eq_ofNat_of_zero_le (h wb).1
  obtain ⟨r, rfl⟩ := Int.eq_ofNat_of_zero_le (h wr).1
  exact Fa.arr_main (x := a % 11) (y := b % (11 - a % 11)) (R := r % 12) (Nat.mod_lt _ (by decide)) (Nat.mod_lt _ (by have := Nat.mod_lt a (show 0 < 11 by decide); omega)) rfl rfl (Nat.mod_lt _ (by decide)) (by have := (h wb).2; omega) rfl rfl rfl
end Go.Proofs.Ytiflmnmkmpjecaa
