/- The walks of the steps and of frac.combined. -/
import Derived.Test.YtiflmnmkmpjecaaG6
import Derived.Test.YtiflmnmkmpjecaaNatSub
set_option linter.unusedVariables false
namespace Go.Proofs.Ytiflmnmkmpjecaa
open Go.RowKit
namespace Fr
abbrev TF : TypeId := 34
theorem boxes3 (w : World) (S T : Value) : Bs w (((w.alloc (.cells #[S] TN)).alloc (.cells #[T] TN)).alloc (.cells #[.slice none 0 0] TN))
    [(w.heap.size + 1 + 1, TN, #[.slice none 0 0]), (w.heap.size + 1, TN, #[T]), (w.heap.size, TN, #[S])] := by
  have := (((Bs.nil w).alloc TN #[S]).alloc TN #[T]).alloc TN #[.slice none 0 0]
  simp only [World.size_alloc] at this
  exact this
theorem boxesF (w : World) (S T U V : Value) : Bs w (((w.alloc (.cells #[S, T] TF)).alloc (.cells #[U, V] TF)).alloc (.cells #[.slice none 0 0, .slice none 0 0] TF))
    [(w.heap.size + 1 + 1, TF, #[.slice none 0 0, .slice none 0 0]), (w.heap.size + 1, TF, #[U, V]), (w.heap.size, TF, #[S, T])] := by
  have := (((Bs.nil w).alloc TF #[S, T]).alloc TF #[U, V]).alloc TF #[.slice none 0 0, .slice none 0 0]
  simp only [World.size_alloc] at this
  exact this
/-- A fraction, or an overflow. -/
def Out (B : Nat) (w' : World) (e : Ending) (fits : Prop) (a b : Nat) : Prop := (fits ∧ Res B w' e a b) ∨ (¬ fits ∧ Err e 9)
set_option maxHeartbeats 4000000 in
theorem add1_any {D E : Option Addr} {n m c c' x y : Nat} {w : World} (hn : n ≤ 64) (hm : m ≤ 64) (hnx : n = L32 x) (hmy : m = L32 y) (hx : Cells w D n (Lm (d32 x))) (hy : Cells w E m (Lm (d32 y))) :
    Calls Try.prog 70 #[natv D n c, natv E m c'] w fun e w' => (NatRes w.heap.size w' e (x + y)) ∧ Below w.heap.size w w' := by
  have HX := Lib.hid hnx
  have HY := Lib.hid hmy
  clear hnx hmy
  have BS0 := Lib.hid (boxes3 w (.slice D n c) (.slice E m c'))
  obtain ⟨v, hv⟩ : ∃ v, v = x + y := ⟨_, rfl⟩
  rw [← hv]
  have HV := Lib.hid hv
  clear hv
  unfold natv
  go_enter Try.func70, Try.ntmps70
  go_wp2_with fail
  refine (add_any (x := x) (y := y) hn hm HX.out HY.out (hx.below BS0.out.below) (hy.below BS0.out.below)).mono ?_
  rintro e w1 ⟨hr, hb1⟩
  rw [← HV.out] at hr
  obtain ⟨z, hz⟩ : ∃ z, z = w.heap.size + 1 + 1 := ⟨_, rfl⟩
  have bs1 := BS0.out.on hb1
  have hz0 := (BS0.out.get (.head _)).2.1
  rw [← hz] at bs1 hz0 ⊢
  have hzw : w.heap.size ≤ z := by omega
  have HZ0 := Lib.hid hz0
  have HW0 := Lib.hid BS0.out.below.size
  obtain ⟨_, lz, kz⟩ := bs1.get (.head _)
  have HB := Lib.hid bs1.below
  have r0 : w1.cell? ⟨z, 0, none⟩ = some (.slice none 0 0) := kz.cell 0
  have f0 : w1.frozen? ⟨z, 0, none⟩ = false := kz.frozen 0
  clear bs1 hb1 kz hz hz0
  rcases hr with ⟨hv64, Dv, cv, rfl, hlv, hcv, hfv⟩ | ⟨hv64, rfl⟩
  · skip
    obtain ⟨lv, hlv2⟩ : ∃ l, l = L32 v := ⟨_, rfl⟩
    rw [← hlv2] at hlv hcv hv64 ⊢
    have HLV := Lib.hid hlv2
    have HCV := Lib.hid hcv
    have HFV := Lib.hid hfv
    clear hlv2 hcv hfv
    unfold natv
    go_wp2
    refine bodyPost_ret (v := .tuple #[natv Dv lv cv, .int .i64 0]) (by unfold natv; simp [results, Try.results70, go_sem, r0]) rfl ?_
    refine ⟨.inl ⟨by rw [← HLV.out]; exact hv64, Dv, cv, by rw [← HLV.out], by rw [← HLV.out]; exact hlv, ?_, HFV.out.mono HW0.out⟩, ?_⟩
    · rw [← HLV.out]
      exact HCV.out.set_ HFV.out HZ0.out _ _
    · repeat' (first | exact HB.out | refine bse ?_ (by assumption) _ _ | refine Below.drew ?_)
  · unfold natv
    go_wp2
    refine bodyPost_ret (v := .tuple #[natv none 0 0, .int .i64 9]) (by unfold natv; simp [results, Try.results70, go_sem, r0]) rfl ?_
    refine ⟨.inr ⟨hv64, rfl⟩, ?_⟩
    repeat' (first | exact HB.out | refine bse ?_ (by assumption) _ _ | refine Below.drew ?_)
set_option maxHeartbeats 4000000 in
theorem sub1_any {D E : Option Addr} {n m c c' x y : Nat} {w : World} (hn : n ≤ 64) (hm : m ≤ 64) (hnx : n = L32 x) (hmy : m = L32 y) (hx : Cells w D n (Lm (d32 x))) (hy : Cells w E m (Lm (d32 y))) (hyx : y ≤ x) :
    Calls Try.prog 73 #[natv D n c, natv E m c'] w fun e w' => (∃ Dr cr, e = .returned (.tuple #[natv Dr (L32 (x - y)) cr, .int .i64 0]) ∧ L32 (x - y) ≤ cr ∧ Cells w' Dr (L32 (x - y)) (Lm (d32 (x - y))) ∧ Fresh w.heap.size Dr) ∧ Below w.heap.size w w' := by
  have HX := Lib.hid hnx
  have HY := Lib.hid hmy
  clear hnx hmy
  have BS0 := Lib.hid (boxes3 w (.slice D n c) (.slice E m c'))
  obtain ⟨v, hv⟩ : ∃ v, v = x - y := ⟨_, rfl⟩
  rw [← hv]
  have HV := Lib.hid hv
  clear hv
  unfold natv
  go_enter Try.func73, Try.ntmps73
  go_wp2_with fail
  refine (sub_any (x := x) (y := y) hn hm HX.out HY.out (hx.below BS0.out.below) (hy.below BS0.out.below) hyx).mono ?_
  rintro e w1 ⟨Dv, cv, rfl, hlv, hcv, hfv, hb1⟩
  rw [← HV.out] at hlv hcv ⊢
  obtain ⟨z, hz⟩ : ∃ z, z = w.heap.size + 1 + 1 := ⟨_, rfl⟩
  have bs1 := BS0.out.on hb1
  have hz0 := (BS0.out.get (.head _)).2.1
  rw [← hz] at bs1 hz0 ⊢
  have hzw : w.heap.size ≤ z := by omega
  have HZ0 := Lib.hid hz0
  have HW0 := Lib.hid BS0.out.below.size
  obtain ⟨_, lz, kz⟩ := bs1.get (.head _)
  have HB := Lib.hid bs1.below
  have r0 : w1.cell? ⟨z, 0, none⟩ = some (.slice none 0 0) := kz.cell 0
  have f0 : w1.frozen? ⟨z, 0, none⟩ = false := kz.frozen 0
  clear bs1 hb1 kz hz hz0
  obtain ⟨lv, hlv2⟩ : ∃ l, l = L32 v := ⟨_, rfl⟩
  rw [← hlv2] at hlv hcv ⊢
  have HLV := Lib.hid hlv2
  have HCV := Lib.hid hcv
  have HFV := Lib.hid hfv
  clear hlv2 hcv hfv
  unfold natv
  go_wp2
  refine bodyPost_ret (v := .tuple #[natv Dv lv cv, .int .i64 0]) (by unfold natv; simp [results, Try.results73, go_sem, r0]) rfl ?_
  refine ⟨⟨Dv, cv, by rw [← HLV.out]; rfl, by rw [← HLV.out]; exact hlv, ?_, HFV.out.mono HW0.out⟩, ?_⟩
  · rw [← HLV.out]
    exact HCV.out.set_ HFV.out HZ0.out _ _
  · repeat' (first | exact HB.out | refine bse ?_ (by assumption) _ _ | refine Below.drew ?_)
def fits_add (xn xd yn yd : Nat) : Prop := L32 (xn * yd) ≤ 64 ∧ L32 (yn * xd) ≤ 64 ∧ L32 (xd * yd) ≤ 64 ∧ L32 (xn * yd + yn * xd) ≤ 64
set_option maxHeartbeats 8000000 in
set_option maxRecDepth 100000 in
theorem comb_add {D0 D1 D2 D3 : Option Addr} {n0 n1 n2 n3 c0 c1 c2 c3 xn xd yn yd : Nat} {w : World} (hn0 : n0 ≤ 64) (hn1 : n1 ≤ 64) (hn2 : n2 ≤ 64) (hn3 : n3 ≤ 64) (h0 : n0 = L32 xn) (h1 : n1 = L32 xd) (h2 : n2 = L32 yn) (h3 : n3 = L32 yd)
    (hx0 : Cells w D0 n0 (Lm (d32 xn))) (hx1 : Cells w D1 n1 (Lm (d32 xd))) (hx2 : Cells w D2 n2 (Lm (d32 yn))) (hx3 : Cells w D3 n3 (Lm (d32 yd))) (hxd : 0 < xd) (hyd : 0 < yd) :
    Calls Try.prog 69 #[fv D0 n0 c0 D1 n1 c1, fv D2 n2 c2 D3 n3 c3, .func (.func 70) #[] #[]] w fun e w' => Out w.heap.size w' e (fits_add xn xd yn yd) ((xn * yd + yn * xd) / Nat.gcd (xn * yd + yn * xd) (xd * yd)) ((xd * yd) / Nat.gcd (xn * yd + yn * xd) (xd * yd)) ∧ Below w.heap.size w w' := by
  have H0 := Lib.hid h0
  have H1 := Lib.hid h1
  have H2 := Lib.hid h2
  have H3 := Lib.hid h3
  have bs := boxesF w (.slice D0 n0 c0) (.slice D1 n1 c1) (.slice D2 n2 c2) (.slice D3 n3 c3)
  unfold fits_add
  obtain ⟨p, hp⟩ : ∃ p, p = xn * yd := ⟨_, rfl⟩
  obtain ⟨q, hq⟩ : ∃ q, q = yn * xd := ⟨_, rfl⟩
  obtain ⟨dd, hdd⟩ : ∃ q, q = xd * yd := ⟨_, rfl⟩
  have HD0 : Hid (0 < dd) := by rw [hdd]; exact Lib.hid (Nat.mul_pos hxd hyd)
  have HP := Lib.hid hp
  have HQ := Lib.hid hq
  have HDD := Lib.hid hdd
  rw [← hp, ← hq, ← hdd]
  clear hp hq hdd h0 h1 h2 h3
  obtain ⟨num, hnum⟩ : ∃ v, v = p + q := ⟨_, rfl⟩
  rw [← hnum]
  have HNUM := Lib.hid hnum
  clear hnum
  have BS0 := Lib.hid bs
  clear bs
  unfold fv
  go_enter Try.func69, Try.ntmps69
  go_wp2_with fail
  refine (products_any (x0 := xn) (x1 := yd) (x2 := yn) (x3 := xd) hn0 hn3 hn2 hn1 H0.out H3.out H2.out H1.out (hx0.below BS0.out.below) (hx3.below BS0.out.below) (hx2.below BS0.out.below) (hx1.below BS0.out.below)).mono ?_
  rintro e w1 ⟨hr, hb1⟩
  rw [← HP.out, ← HQ.out] at hr
  obtain ⟨z, hz⟩ : ∃ z, z = w.heap.size + 1 + 1 := ⟨_, rfl⟩
  have bs1 := BS0.out.on hb1
  have hz0 := (BS0.out.get (.head _)).2.1
  rw [← hz] at bs1 hz0 ⊢
  have hzw : w.heap.size ≤ z := by omega
  have HZ0 := Lib.hid hz0
  have HW0 := Lib.hid BS0.out.below.size
  have BS1 := Lib.hid bs1
  clear bs1 hb1 hz hz0 BS0
  rcases hr with ⟨hp64, hq64, Dp, cp, Dq, cq, rfl, hlp, hlq, hcp, hcq, hfp, hfq⟩ | ⟨hpq, rfl⟩
  · obtain ⟨lp, hlp2⟩ : ∃ l, l = L32 p := ⟨_, rfl⟩
    obtain ⟨lq, hlq2⟩ : ∃ l, l = L32 q := ⟨_, rfl⟩
    rw [← hlp2] at hlp hcp hp64 ⊢
    rw [← hlq2] at hlq hcq hq64 ⊢
    have HLP := Lib.hid hlp2
    have HLQ := Lib.hid hlq2
    have bs2 := (BS1.out.alloc TN #[.slice Dp lp cp]).alloc TN #[.slice Dq lq cq]
    simp only [World.size_alloc] at bs2
    have BS2 := Lib.hid bs2
    have HCP := Lib.hid ((hcp.alloc (.cells #[.slice Dp lp cp] TN)).alloc (.cells #[.slice Dq lq cq] TN))
    have HCQ := Lib.hid ((hcq.alloc (.cells #[.slice Dp lp cp] TN)).alloc (.cells #[.slice Dq lq cq] TN))
    obtain ⟨_, la, ka⟩ := BS1.out.get (.tail _ (.tail _ (.head _)))
    obtain ⟨_, lb, kb⟩ := BS1.out.get (.tail _ (.head _))
    have qa : w1.cell? ⟨w.heap.size, 1, none⟩ = some (.slice D1 n1 c1) := ka.cell 1
    have qb : w1.cell? ⟨w.heap.size + 1, 1, none⟩ = some (.slice D3 n3 c3) := kb.cell 1
    clear bs2 hlp2 hlq2 hcp hcq hfp hfq ka kb
    unfold natv
    go_wp2_with fail
    refine (mul_any (x := xd) (y := yd) hn1 hn3 H1.out H3.out (hx1.below BS2.out.below) (hx3.below BS2.out.below)).mono ?_
    rintro e w2 ⟨hr, hb2⟩
    rw [← HDD.out] at hr
    have BS3 := Lib.hid (BS2.out.on hb2)
    have HCP2 := Lib.hid (HCP.out.below hb2)
    have HCQ2 := Lib.hid (HCQ.out.below hb2)
    have HW2 := Lib.hid BS2.out.below.size
    clear qa qb la lb hb2 HCP HCQ BS2
    rcases hr with ⟨hd64, Dd, cd, rfl, hld, hcd, hfd⟩ | ⟨hd64, rfl⟩
    · obtain ⟨ld, hld2⟩ : ∃ l, l = L32 dd := ⟨_, rfl⟩
      rw [← hld2] at hld hcd hd64 ⊢
      have HLD := Lib.hid hld2
      have BS4 := Lib.hid (BS3.out.alloc TN #[.slice Dd ld cd])
      have HCD := Lib.hid (hcd.alloc (.cells #[.slice Dd ld cd] TN))
      have HCP3 := Lib.hid (HCP2.out.alloc (.cells #[.slice Dd ld cd] TN))
      have HCQ3 := Lib.hid (HCQ2.out.alloc (.cells #[.slice Dd ld cd] TN))
      obtain ⟨_, la, ka⟩ := BS3.out.get (.tail _ (.head _))
      obtain ⟨_, lb, kb⟩ := BS3.out.get (.head _)
      have qa : w2.cell? ⟨w1.heap.size, 0, none⟩ = some (.slice Dp lp cp) := ka.cell 0
      have qb : w2.cell? ⟨w1.heap.size + 1, 0, none⟩ = some (.slice Dq lq cq) := kb.cell 0
      clear hld2 hcd hfd ka kb HCP2 HCQ2
      unfold natv
      go_wp2_with fail
      refine (add1_any (x := p) (y := q) hp64 hq64 HLP.out HLQ.out HCP3.out HCQ3.out).mono ?_
      rintro e w3 ⟨hr, hb3⟩
      rw [← HNUM.out] at hr
      clear qa qb la lb
      have BS5 := Lib.hid (BS4.out.on hb3)
      have HCD3 := Lib.hid (HCD.out.below hb3)
      clear hb3 HCD HCP3 HCQ3 BS4
      rcases hr with ⟨hv64, Dv, cv, rfl, hlv, hcv, hfv⟩ | ⟨hv64, rfl⟩
      · skip
        obtain ⟨lv, hlv2⟩ : ∃ l, l = L32 num := ⟨_, rfl⟩
        rw [← hlv2] at hlv hcv hv64 ⊢
        have HLV := Lib.hid hlv2
        have BS6 := Lib.hid (BS5.out.alloc TN #[.slice Dv lv cv])
        have HCV := Lib.hid (hcv.alloc (.cells #[.slice Dv lv cv] TN))
        have HCD4 := Lib.hid (HCD3.out.alloc (.cells #[.slice Dv lv cv] TN))
        have HFITS := Lib.hid (show L32 p ≤ 64 ∧ L32 q ≤ 64 ∧ L32 dd ≤ 64 ∧ L32 num ≤ 64 by rw [← HLP.out, ← HLQ.out, ← HLD.out, ← HLV.out]; exact ⟨hp64, hq64, hd64, hv64⟩)
        obtain ⟨_, la, ka⟩ := BS5.out.get (.head _)
        have qa : w3.cell? ⟨w2.heap.size, 0, none⟩ = some (.slice Dd ld cd) := ka.cell 0
        clear hlv2 hcv hfv ka HCD3
        unfold natv
        go_wp2_with fail
        refine (make_any (x := num) (y := dd) hv64 hd64 HLV.out HLD.out HCV.out HCD4.out HD0.out).mono ?_
        rintro e w4 ⟨⟨Da, ca, Db, cb, rfl, hla, hlb, hca, hcb, hfa, hfb⟩, hb4⟩
        obtain ⟨l1, hl1⟩ : ∃ l, l = L32 (num / Nat.gcd num dd) := ⟨_, rfl⟩
        obtain ⟨l2, hl2⟩ : ∃ l, l = L32 (dd / Nat.gcd num dd) := ⟨_, rfl⟩
        rw [← hl1] at hla hca ⊢
        rw [← hl2] at hlb hcb ⊢
        have HL1 := Lib.hid hl1
        have HL2 := Lib.hid hl2
        have HCA := Lib.hid hca
        have HCB := Lib.hid hcb
        have HFA := Lib.hid hfa
        have HFB := Lib.hid hfb
        have BS7 := Lib.hid (BS6.out.on hb4)
        have HZ6 := Lib.hid (BS6.out.get (.tail _ (.tail _ (.tail _ (.tail _ (.head _)))))).2.1
        have HW6 := Lib.hid BS6.out.below.size
        obtain ⟨_, lz, kz⟩ := BS7.out.get (.tail _ (.tail _ (.tail _ (.tail _ (.head _)))))
        have r0 : w4.cell? ⟨z, 0, none⟩ = some (.slice none 0 0) := kz.cell 0
        have r1 : w4.cell? ⟨z, 1, none⟩ = some (.slice none 0 0) := kz.cell 1
        have f0 : w4.frozen? ⟨z, 0, none⟩ = false := kz.frozen 0
        have f1 : w4.frozen? ⟨z, 1, none⟩ = false := kz.frozen 1
        have HB7 := Lib.hid BS7.out.below
        clear hl1 hl2 hca hcb hfa hfb qa la kz hb4
        unfold fv
        go_wp2
        refine bodyPost_ret (v := .tuple #[fv Da l1 ca Db l2 cb, .int .i64 0]) (by unfold fv; simp [results, Try.results69, go_sem, r0, r1]) rfl ?_
        refine ⟨.inl ⟨HFITS.out, Da, ca, Db, cb, by rw [← HL1.out, ← HL2.out], by rw [← HL1.out]; exact hla, by rw [← HL2.out]; exact hlb, ?_, ?_, HFA.out.mono HW6.out, HFB.out.mono HW6.out⟩, ?_⟩
        · rw [← HL1.out]
          exact (HCA.out.set_ HFA.out HZ6.out _ _).set_ HFA.out HZ6.out _ _
        · rw [← HL2.out]
          exact (HCB.out.set_ HFB.out HZ6.out _ _).set_ HFB.out HZ6.out _ _
        · repeat' (first | exact HB7.out | refine bl_alloc ?_ _ | refine bse ?_ (by assumption) _ _ | refine Below.drew ?_)
      · skip
        obtain ⟨_, lz, kz⟩ := BS5.out.get (.tail _ (.tail _ (.tail _ (.head _))))
        have r0 : w3.cell? ⟨z, 0, none⟩ = some (.slice none 0 0) := kz.cell 0
        have r1 : w3.cell? ⟨z, 1, none⟩ = some (.slice none 0 0) := kz.cell 1
        have f0 : w3.frozen? ⟨z, 0, none⟩ = false := kz.frozen 0
        have f1 : w3.frozen? ⟨z, 1, none⟩ = false := kz.frozen 1
        have HB7 := Lib.hid BS5.out.below
        clear kz
        unfold natv
        go_wp2
        refine bodyPost_ret (v := .tuple #[fv none 0 0 none 0 0, .int .i64 9]) (by unfold fv; simp [results, Try.results69, go_sem, r0, r1, lz]) rfl ?_
        refine ⟨.inr ⟨fun h => by have := h.2.2.2; omega, rfl⟩, ?_⟩
        repeat' (first | exact HB7.out | refine bl_alloc ?_ _ | refine bse ?_ (by assumption) _ _ | refine Below.drew ?_)
    · skip
      obtain ⟨_, lz, kz⟩ := BS3.out.get (.tail _ (.tail _ (.head _)))
      have r0 : w2.cell? ⟨z, 0, none⟩ = some (.slice none 0 0) := kz.cell 0
      have r1 : w2.cell? ⟨z, 1, none⟩ = some (.slice none 0 0) := kz.cell 1
      have f0 : w2.frozen? ⟨z, 0, none⟩ = false := kz.frozen 0
      have f1 : w2.frozen? ⟨z, 1, none⟩ = false := kz.frozen 1
      have HB7 := Lib.hid BS3.out.below
      clear kz
      unfold natv
      go_wp2
      refine bodyPost_ret (v := .tuple #[fv none 0 0 none 0 0, .int .i64 9]) (by unfold fv; simp [results, Try.results69, go_sem, r0, r1, lz]) rfl ?_
      refine ⟨.inr ⟨fun h => by have := h.2.2.1; omega, rfl⟩, ?_⟩
      repeat' (first | exact HB7.out | refine bl_alloc ?_ _ | refine bse ?_ (by assumption) _ _ | refine Below.drew ?_)
  · skip
    obtain ⟨_, lz, kz⟩ := BS1.out.get (.head _)
    have r0 : w1.cell? ⟨z, 0, none⟩ = some (.slice none 0 0) := kz.cell 0
    have r1 : w1.cell? ⟨z, 1, none⟩ = some (.slice none 0 0) := kz.cell 1
    have f0 : w1.frozen? ⟨z, 0, none⟩ = false := kz.frozen 0
    have f1 : w1.frozen? ⟨z, 1, none⟩ = false := kz.frozen 1
    have HB7 := Lib.hid BS1.out.below
    clear kz
    unfold natv
    go_wp2
    refine bodyPost_ret (v := .tuple #[fv none 0 0 none 0 0, .int .i64 9]) (by unfold fv; simp [results, Try.results69, go_sem, r0, r1, lz]) rfl ?_
    refine ⟨.inr ⟨fun h => by have := h.1; have := h.2.1; omega, rfl⟩, ?_⟩
    repeat' (first | exact HB7.out | refine bl_alloc ?_ _ | refine bse ?_ (by assumption) _ _ | refine Below.drew ?_)
def fits_sub (xn xd yn yd : Nat) : Prop := L32 (xn * yd) ≤ 64 ∧ L32 (yn * xd) ≤ 64 ∧ L32 (xd * yd) ≤ 64
set_option maxHeartbeats 8000000 in
set_option maxRecDepth 100000 in
theorem comb_sub {D0 D1 D2 D3 : Option Addr} {n0 n1 n2 n3 c0 c1 c2 c3 xn xd yn yd : Nat} {w : World} (hn0 : n0 ≤ 64) (hn1 : n1 ≤ 64) (hn2 : n2 ≤ 64) (hn3 : n3 ≤ 64) (h0 : n0 = L32 xn) (h1 : n1 = L32 xd) (h2 : n2 = L32 yn) (h3 : n3 = L32 yd)
    (hx0 : Cells w D0 n0 (Lm (d32 xn))) (hx1 : Cells w D1 n1 (Lm (d32 xd))) (hx2 : Cells w D2 n2 (Lm (d32 yn))) (hx3 : Cells w D3 n3 (Lm (d32 yd))) (hxd : 0 < xd) (hyd : 0 < yd) (hle : yn * xd ≤ xn * yd) :
    Calls Try.prog 69 #[fv D0 n0 c0 D1 n1 c1, fv D2 n2 c2 D3 n3 c3, .func (.func 73) #[] #[]] w fun e w' => Out w.heap.size w' e (fits_sub xn xd yn yd) ((xn * yd - yn * xd) / Nat.gcd (xn * yd - yn * xd) (xd * yd)) ((xd * yd) / Nat.gcd (xn * yd - yn * xd) (xd * yd)) ∧ Below w.heap.size w w' := by
  have H0 := Lib.hid h0
  have H1 := Lib.hid h1
  have H2 := Lib.hid h2
  have H3 := Lib.hid h3
  have bs := boxesF w (.slice D0 n0 c0) (.slice D1 n1 c1) (.slice D2 n2 c2) (.slice D3 n3 c3)
  unfold fits_sub
  obtain ⟨p, hp⟩ : ∃ p, p = xn * yd := ⟨_, rfl⟩
  obtain ⟨q, hq⟩ : ∃ q, q = yn * xd := ⟨_, rfl⟩
  obtain ⟨dd, hdd⟩ : ∃ q, q = xd * yd := ⟨_, rfl⟩
  have HD0 : Hid (0 < dd) := by rw [hdd]; exact Lib.hid (Nat.mul_pos hxd hyd)
  have HP := Lib.hid hp
  have HQ := Lib.hid hq
  have HDD := Lib.hid hdd
  rw [← hp, ← hq, ← hdd]
  rw [← hp, ← hq] at hle
  have HLE := Lib.hid hle
  clear hp hq hdd h0 h1 h2 h3 hle
  obtain ⟨num, hnum⟩ : ∃ v, v = p - q := ⟨_, rfl⟩
  rw [← hnum]
  have HNUM := Lib.hid hnum
  clear hnum
  have BS0 := Lib.hid bs
  clear bs
  unfold fv
  go_enter Try.func69, Try.ntmps69
  go_wp2_with fail
  refine (products_any (x0 := xn) (x1 := yd) (x2 := yn) (x3 := xd) hn0 hn3 hn2 hn1 H0.out H3.out H2.out H1.out (hx0.below BS0.out.below) (hx3.below BS0.out.below) (hx2.below BS0.out.below) (hx1.below BS0.out.below)).mono ?_
  rintro e w1 ⟨hr, hb1⟩
  rw [← HP.out, ← HQ.out] at hr
  obtain ⟨z, hz⟩ : ∃ z, z = w.heap.size + 1 + 1 := ⟨_, rfl⟩
  have bs1 := BS0.out.on hb1
  have hz0 := (BS0.out.get (.head _)).2.1
  rw [← hz] at bs1 hz0 ⊢
  have hzw : w.heap.size ≤ z := by omega
  have HZ0 := Lib.hid hz0
  have HW0 := Lib.hid BS0.out.below.size
  have BS1 := Lib.hid bs1
  clear bs1 hb1 hz hz0 BS0
  rcases hr with ⟨hp64, hq64, Dp, cp, Dq, cq, rfl, hlp, hlq, hcp, hcq, hfp, hfq⟩ | ⟨hpq, rfl⟩
  · obtain ⟨lp, hlp2⟩ : ∃ l, l = L32 p := ⟨_, rfl⟩
    obtain ⟨lq, hlq2⟩ : ∃ l, l = L32 q := ⟨_, rfl⟩
    rw [← hlp2] at hlp hcp hp64 ⊢
    rw [← hlq2] at hlq hcq hq64 ⊢
    have HLP := Lib.hid hlp2
    have HLQ := Lib.hid hlq2
    have bs2 := (BS1.out.alloc TN #[.slice Dp lp cp]).alloc TN #[.slice Dq lq cq]
    simp only [World.size_alloc] at bs2
    have BS2 := Lib.hid bs2
    have HCP := Lib.hid ((hcp.alloc (.cells #[.slice Dp lp cp] TN)).alloc (.cells #[.slice Dq lq cq] TN))
    have HCQ := Lib.hid ((hcq.alloc (.cells #[.slice Dp lp cp] TN)).alloc (.cells #[.slice Dq lq cq] TN))
    obtain ⟨_, la, ka⟩ := BS1.out.get (.tail _ (.tail _ (.head _)))
    obtain ⟨_, lb, kb⟩ := BS1.out.get (.tail _ (.head _))
    have qa : w1.cell? ⟨w.heap.size, 1, none⟩ = some (.slice D1 n1 c1) := ka.cell 1
    have qb : w1.cell? ⟨w.heap.size + 1, 1, none⟩ = some (.slice D3 n3 c3) := kb.cell 1
    clear bs2 hlp2 hlq2 hcp hcq hfp hfq ka kb
    unfold natv
    go_wp2_with fail
    refine (mul_any (x := xd) (y := yd) hn1 hn3 H1.out H3.out (hx1.below BS2.out.below) (hx3.below BS2.out.below)).mono ?_
    rintro e w2 ⟨hr, hb2⟩
    rw [← HDD.out] at hr
    have BS3 := Lib.hid (BS2.out.on hb2)
    have HCP2 := Lib.hid (HCP.out.below hb2)
    have HCQ2 := Lib.hid (HCQ.out.below hb2)
    have HW2 := Lib.hid BS2.out.below.size
    clear qa qb la lb hb2 HCP HCQ BS2
    rcases hr with ⟨hd64, Dd, cd, rfl, hld, hcd, hfd⟩ | ⟨hd64, rfl⟩
    · obtain ⟨ld, hld2⟩ : ∃ l, l = L32 dd := ⟨_, rfl⟩
      rw [← hld2] at hld hcd hd64 ⊢
      have HLD := Lib.hid hld2
      have BS4 := Lib.hid (BS3.out.alloc TN #[.slice Dd ld cd])
      have HCD := Lib.hid (hcd.alloc (.cells #[.slice Dd ld cd] TN))
      have HCP3 := Lib.hid (HCP2.out.alloc (.cells #[.slice Dd ld cd] TN))
      have HCQ3 := Lib.hid (HCQ2.out.alloc (.cells #[.slice Dd ld cd] TN))
      obtain ⟨_, la, ka⟩ := BS3.out.get (.tail _ (.head _))
      obtain ⟨_, lb, kb⟩ := BS3.out.get (.head _)
      have qa : w2.cell? ⟨w1.heap.size, 0, none⟩ = some (.slice Dp lp cp) := ka.cell 0
      have qb : w2.cell? ⟨w1.heap.size + 1, 0, none⟩ = some (.slice Dq lq cq) := kb.cell 0
      clear hld2 hcd hfd ka kb HCP2 HCQ2
      unfold natv
      go_wp2_with fail
      refine (sub1_any (x := p) (y := q) hp64 hq64 HLP.out HLQ.out HCP3.out HCQ3.out HLE.out).mono ?_
      rintro e w3 ⟨⟨Dv, cv, rfl, hlv, hcv, hfv⟩, hb3⟩
      rw [← HNUM.out] at hlv hcv ⊢
      have hv64 : L32 num ≤ 64 := Nat.le_trans (Nt.len_mono (by omega) (show num ≤ p by rw [HNUM.out]; exact Nat.sub_le _ _)) (by show L32 p ≤ 64; rw [← HLP.out]; exact hp64)
      clear qa qb la lb
      have BS5 := Lib.hid (BS4.out.on hb3)
      have HCD3 := Lib.hid (HCD.out.below hb3)
      clear hb3 HCD HCP3 HCQ3 BS4
      obtain ⟨lv, hlv2⟩ : ∃ l, l = L32 num := ⟨_, rfl⟩
      rw [← hlv2] at hlv hcv hv64 ⊢
      have HLV := Lib.hid hlv2
      have BS6 := Lib.hid (BS5.out.alloc TN #[.slice Dv lv cv])
      have HCV := Lib.hid (hcv.alloc (.cells #[.slice Dv lv cv] TN))
      have HCD4 := Lib.hid (HCD3.out.alloc (.cells #[.slice Dv lv cv] TN))
      have HFITS := Lib.hid (show L32 p ≤ 64 ∧ L32 q ≤ 64 ∧ L32 dd ≤ 64 by rw [← HLP.out, ← HLQ.out, ← HLD.out]; exact ⟨hp64, hq64, hd64⟩)
      obtain ⟨_, la, ka⟩ := BS5.out.get (.head _)
      have qa : w3.cell? ⟨w2.heap.size, 0, none⟩ = some (.slice Dd ld cd) := ka.cell 0
      clear hlv2 hcv hfv ka HCD3
      unfold natv
      go_wp2_with fail
      refine (make_any (x := num) (y := dd) hv64 hd64 HLV.out HLD.out HCV.out HCD4.out HD0.out).mono ?_
      rintro e w4 ⟨⟨Da, ca, Db, cb, rfl, hla, hlb, hca, hcb, hfa, hfb⟩, hb4⟩
      obtain ⟨l1, hl1⟩ : ∃ l, l = L32 (num / Nat.gcd num dd) := ⟨_, rfl⟩
      obtain ⟨l2, hl2⟩ : ∃ l, l = L32 (dd / Nat.gcd num dd) := ⟨_, rfl⟩
      rw [← hl1] at hla hca ⊢
      rw [← hl2] at hlb hcb ⊢
      have HL1 := Lib.hid hl1
      have HL2 := Lib.hid hl2
      have HCA := Lib.hid hca
      have HCB := Lib.hid hcb
      have HFA := Lib.hid hfa
      have HFB := Lib.hid hfb
      have BS7 := Lib.hid (BS6.out.on hb4)
      have HZ6 := Lib.hid (BS6.out.get (.tail _ (.tail _ (.tail _ (.tail _ (.head _)))))).2.1
      have HW6 := Lib.hid BS6.out.below.size
      obtain ⟨_, lz, kz⟩ := BS7.out.get (.tail _ (.tail _ (.tail _ (.tail _ (.head _)))))
      have r0 : w4.cell? ⟨z, 0, none⟩ = some (.slice none 0 0) := kz.cell 0
      have r1 : w4.cell? ⟨z, 1, none⟩ = some (.slice none 0 0) := kz.cell 1
      have f0 : w4.frozen? ⟨z, 0, none⟩ = false := kz.frozen 0
      have f1 : w4.frozen? ⟨z, 1, none⟩ = false := kz.frozen 1
      have HB7 := Lib.hid BS7.out.below
      clear hl1 hl2 hca hcb hfa hfb qa la kz hb4
      unfold fv
      go_wp2
      refine bodyPost_ret (v := .tuple #[fv Da l1 ca Db l2 cb, .int .i64 0]) (by unfold fv; simp [results, Try.results69, go_sem, r0, r1]) rfl ?_
      refine ⟨.inl ⟨HFITS.out, Da, ca, Db, cb, by rw [← HL1.out, ← HL2.out], by rw [← HL1.out]; exact hla, by rw [← HL2.out]; exact hlb, ?_, ?_, HFA.out.mono HW6.out, HFB.out.mono HW6.out⟩, ?_⟩
      · rw [← HL1.out]
        exact (HCA.out.set_ HFA.out HZ6.out _ _).set_ HFA.out HZ6.out _ _
      · rw [← HL2.out]
        exact (HCB.out.set_ HFB.out HZ6.out _ _).set_ HFB.out HZ6.out _ _
      · repeat' (first | exact HB7.out | refine bl_alloc ?_ _ | refine bse ?_ (by assumption) _ _ | refine Below.drew ?_)
    · skip
      obtain ⟨_, lz, kz⟩ := BS3.out.get (.tail _ (.tail _ (.head _)))
      have r0 : w2.cell? ⟨z, 0, none⟩ = some (.slice none 0 0) := kz.cell 0
      have r1 : w2.cell? ⟨z, 1, none⟩ = some (.slice none 0 0) := kz.cell 1
      have f0 : w2.frozen? ⟨z, 0, none⟩ = false := kz.frozen 0
      have f1 : w2.frozen? ⟨z, 1, none⟩ = false := kz.frozen 1
      have HB7 := Lib.hid BS3.out.below
      clear kz
      unfold natv
      go_wp2
      refine bodyPost_ret (v := .tuple #[fv none 0 0 none 0 0, .int .i64 9]) (by unfold fv; simp [results, Try.results69, go_sem, r0, r1, lz]) rfl ?_
      refine ⟨.inr ⟨fun h => by have := h.2.2; omega, rfl⟩, ?_⟩
      repeat' (first | exact HB7.out | refine bl_alloc ?_ _ | refine bse ?_ (by assumption) _ _ | refine Below.drew ?_)
  · skip
    obtain ⟨_, lz, kz⟩ := BS1.out.get (.head _)
    have r0 : w1.cell? ⟨z, 0, none⟩ = some (.slice none 0 0) := kz.cell 0
    have r1 : w1.cell? ⟨z, 1, none⟩ = some (.slice none 0 0) := kz.cell 1
    have f0 : w1.frozen? ⟨z, 0, none⟩ = false := kz.frozen 0
    have f1 : w1.frozen? ⟨z, 1, none⟩ = false := kz.frozen 1
    have HB7 := Lib.hid BS1.out.below
    clear kz
    unfold natv
    go_wp2
    refine bodyPost_ret (v := .tuple #[fv none 0 0 none 0 0, .int .i64 9]) (by unfold fv; simp [results, Try.results69, go_sem, r0, r1, lz]) rfl ?_
    refine ⟨.inr ⟨fun h => by have := h.1; have := h.2.1; omega, rfl⟩, ?_⟩
    repeat' (first | exact HB7.out | refine bl_alloc ?_ _ | refine bse ?_ (by assumption) _ _ | refine Below.drew ?_)
end Fr
end Go.Proofs.Ytiflmnmkmpjecaa
