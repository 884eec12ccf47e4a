/- The walks of the reference's Add and Sub of fractions. -/
import Derived.Test.YtiflmnmkmpjecaaFrRCross
set_option linter.unusedVariables false
namespace Go.Proofs.Ytiflmnmkmpjecaa
open Go.RowKit
namespace Fr
set_option maxHeartbeats 8000000 in
set_option maxRecDepth 100000 in
theorem radd_ok {D0 D1 D2 D3 : Option Addr} {n0 n1 n2 n3 c0 c1 c2 c3 xn xd yn yd : Nat} {w : World} (hn0 : n0 ≤ 64) (hn1 : n1 ≤ 64) (hn2 : n2 ≤ 64) (hn3 : n3 ≤ 64) (h0 : n0 = L32 xn) (h1 : n1 = L32 xd) (h2 : n2 = L32 yn) (h3 : n3 = L32 yd)
    (hx0 : Cells w D0 n0 (Lm (d32 xn))) (hx1 : Cells w D1 n1 (Lm (d32 xd))) (hx2 : Cells w D2 n2 (Lm (d32 yn))) (hx3 : Cells w D3 n3 (Lm (d32 yd))) (hf : fok xn xd = true) (hg : fok yn yd = true) :
    Calls Try.prog 18 #[fv D0 n0 c0 D1 n1 c1, fv D2 n2 c2 D3 n3 c3] w fun e w' => Out w.heap.size w' e (fits_add xn xd yn yd) ((xn * yd + yn * xd) / Nat.gcd (xn * yd + yn * xd) (xd * yd)) ((xd * yd) / Nat.gcd (xn * yd + yn * xd) (xd * yd)) ∧ Below w.heap.size w w' := by
  have HXD := Lib.hid (fok_pos hf)
  have HYD := Lib.hid (fok_pos hg)
  unfold fits_add
  obtain ⟨p, hp⟩ : ∃ p, p = xn * yd := ⟨_, rfl⟩
  obtain ⟨q, hq⟩ : ∃ q, q = yn * xd := ⟨_, rfl⟩
  obtain ⟨d, hd⟩ : ∃ q, q = xd * yd := ⟨_, rfl⟩
  have HDD : Hid (0 < d) := by rw [hd]; exact Lib.hid (Nat.mul_pos HXD.out HYD.out)
  have HP := Lib.hid hp
  have HQ := Lib.hid hq
  have HD := Lib.hid hd
  rw [← hp, ← hq, ← hd]
  clear hp hq hd
  obtain ⟨num, hnum⟩ : ∃ v, v = p + q := ⟨_, rfl⟩
  rw [← hnum]
  have HNUM := Lib.hid hnum
  clear hnum
  have H0 := Lib.hid h0
  have H1 := Lib.hid h1
  have H2 := Lib.hid h2
  have H3 := Lib.hid h3
  have HK := fun (w' : World) (h : Below w.heap.size w w') => rfvalid_any (c := c0) (c' := c1) hn0 hn1 H0.out H1.out (hx0.below h) (hx1.below h)
  have HK2 := fun (w' : World) (h : Below w.heap.size w w') => rfvalid_any (c := c2) (c' := c3) hn2 hn3 H2.out H3.out (hx2.below h) (hx3.below h)
  rw [hf] at HK
  rw [hg] at HK2
  have BS0 := Lib.hid (boxesF w (.slice D0 n0 c0) (.slice D1 n1 c1) (.slice D2 n2 c2) (.slice D3 n3 c3))
  clear hf hg h0 h1 h2 h3
  unfold fv at HK HK2 ⊢
  have HKH := Lib.hid HK
  have HKH2 := Lib.hid HK2
  clear HK HK2
  go_enter Try.func18, Try.ntmps18
  go_wp2_with fail
  refine (HKH.out _ BS0.out.below).mono ?_
  rintro e w1 ⟨rfl, hb1⟩
  have BS1 := Lib.hid (BS0.out.on hb1)
  obtain ⟨_, lb, kb⟩ := BS1.out.get (.tail _ (.head _))
  have qa : w1.cell? ⟨w.heap.size + 1, 0, none⟩ = some (.slice D2 n2 c2) := kb.cell 0
  have qb : w1.cell? ⟨w.heap.size + 1, 1, none⟩ = some (.slice D3 n3 c3) := kb.cell 1
  clear hb1 kb BS0
  go_wp2_with fail
  refine (HKH2.out _ BS1.out.below).mono ?_
  rintro e w2 ⟨rfl, hb1⟩
  clear qa qb lb
  obtain ⟨z, hz⟩ : ∃ z, z = w.heap.size + 1 + 1 := ⟨_, rfl⟩
  have bs2 := BS1.out.on hb1
  rw [← hz] at bs2 ⊢
  have hzw : w.heap.size ≤ z := by omega
  have BS2 := Lib.hid bs2
  obtain ⟨_, la2, ka⟩ := BS2.out.get (.tail _ (.tail _ (.head _)))
  obtain ⟨_, lb2, kb⟩ := BS2.out.get (.tail _ (.head _))
  have r0 : w2.cell? ⟨w.heap.size, 0, none⟩ = some (.slice D0 n0 c0) := ka.cell 0
  have r1 : w2.cell? ⟨w.heap.size, 1, none⟩ = some (.slice D1 n1 c1) := ka.cell 1
  have r2 : w2.cell? ⟨w.heap.size + 1, 0, none⟩ = some (.slice D2 n2 c2) := kb.cell 0
  have r3 : w2.cell? ⟨w.heap.size + 1, 1, none⟩ = some (.slice D3 n3 c3) := kb.cell 1
  clear hb1 ka kb bs2 hz BS1
  go_wp2_with fail
  refine (crossed_any (xn := xn) (xd := xd) (yn := yn) (yd := yd) hn0 hn1 hn2 hn3 H0.out H1.out H2.out H3.out (hx0.below BS2.out.below) (hx1.below BS2.out.below) (hx2.below BS2.out.below) (hx3.below BS2.out.below)).mono ?_
  rintro e w4 ⟨hr, hb4⟩
  rw [← HP.out, ← HQ.out, ← HD.out] at hr
  have BS4 := Lib.hid (BS2.out.on hb4)
  clear r0 r1 r2 r3 la2 lb2 hb4
  obtain ⟨_, lz, kz⟩ := BS4.out.get (.head _)
  have s0 : w4.cell? ⟨z, 0, none⟩ = some (.slice none 0 0) := kz.cell 0
  have s1 : w4.cell? ⟨z, 1, none⟩ = some (.slice none 0 0) := kz.cell 1
  have f0 : w4.frozen? ⟨z, 0, none⟩ = false := kz.frozen 0
  have f1 : w4.frozen? ⟨z, 1, none⟩ = false := kz.frozen 1
  have HB7 := Lib.hid BS4.out.below
  clear kz
  rcases hr with ⟨⟨p64, q64, d64⟩, Dp, cp, Dq, cq, Dd, cd, rfl, hcp, hcq, hcd⟩ | ⟨hno, rfl⟩
  · clear s0 s1 f0 f1 lz HB7
    obtain ⟨lp, hlp⟩ : ∃ l, l = L32 p := ⟨_, rfl⟩
    obtain ⟨lq, hlq⟩ : ∃ l, l = L32 q := ⟨_, rfl⟩
    obtain ⟨ld, hld⟩ : ∃ l, l = L32 d := ⟨_, rfl⟩
    have P64 := Lib.hid p64
    have Q64 := Lib.hid q64
    have D64 := Lib.hid d64
    rw [← hlp] at hcp p64 ⊢
    rw [← hlq] at hcq q64 ⊢
    rw [← hld] at hcd d64 ⊢
    have HLP := Lib.hid hlp
    have HLQ := Lib.hid hlq
    have HLD := Lib.hid hld
    have bs5 := ((BS4.out.alloc TN #[.slice Dp lp cp]).alloc TN #[.slice Dq lq cq]).alloc TN #[.slice Dd ld cd]
    simp only [World.size_alloc] at bs5
    have BS5 := Lib.hid bs5
    have AL := fun (D : Option Addr) (n : Nat) (G : Nat → Value) (h : Cells w4 D n G) => ((h.alloc (.cells #[.slice Dp lp cp] TN)).alloc (.cells #[.slice Dq lq cq] TN)).alloc (.cells #[.slice Dd ld cd] TN)
    have HCP := Lib.hid (AL _ _ _ hcp)
    have HCQ := Lib.hid (AL _ _ _ hcq)
    have HCD := Lib.hid (AL _ _ _ hcd)
    clear bs5 hlp hlq hld hcp hcq hcd AL
    unfold natv
    go_wp2_with fail
    refine (addN (x := p) (y := q) p64 q64 HLP.out HLQ.out HCP.out HCQ.out).mono ?_
    rintro e w5 ⟨Dn, ln, cn, yn', rfl, hn, hb5⟩
    rw [← HNUM.out] at hn
    have BS6 := Lib.hid (BS5.out.on hb5)
    replace HCD := Lib.hid (HCD.out.below hb5)
    clear hb5 HCP HCQ BS4
    obtain ⟨_, lb, kb⟩ := BS6.out.get (.head _)
    have qb : w5.cell? ⟨w4.heap.size + 1 + 1, 0, none⟩ = some (.slice Dd ld cd) := kb.cell 0
    clear kb
    unfold natv
    rcases hn with ⟨N64, rfl, hln, hcn, hfn⟩ | ⟨N64, rfl, rfl, rfl, rfl⟩
    · rw [← hln] at N64
      have HLN := Lib.hid hln
      have BS7 := Lib.hid (BS6.out.alloc TN #[.slice Dn ln cn])
      have HCN := Lib.hid (hcn.alloc (.cells #[.slice Dn ln cn] TN))
      replace HCD := Lib.hid (HCD.out.alloc (.cells #[.slice Dn ln cn] TN))
      have HFIT := Lib.hid (show L32 p ≤ 64 ∧ L32 q ≤ 64 ∧ L32 d ≤ 64 ∧ L32 num ≤ 64 from ⟨P64.out, Q64.out, D64.out, by rw [← HLN.out]; exact N64⟩)
      clear hln hcn hfn
      go_wp2_with fail
      refine (rreduce_any (x := num) (y := d) N64 d64 HLN.out HLD.out HCN.out HCD.out HDD.out).mono ?_
      rintro e w6 ⟨⟨Da, ca, Db, cb, rfl, hla, hlb, hca, hcb, hfa, hfb⟩, hb6⟩
      have HZ6 := Lib.hid (BS7.out.get (.tail _ (.tail _ (.tail _ (.tail _ (.head _)))))).2.1
      have HW6 := Lib.hid BS7.out.below.size
      have BS8 := Lib.hid (BS7.out.on hb6)
      clear hb6 qb lb
      obtain ⟨_, lz, kz⟩ := BS8.out.get (.tail _ (.tail _ (.tail _ (.tail _ (.head _)))))
      have s0 : w6.cell? ⟨z, 0, none⟩ = some (.slice none 0 0) := kz.cell 0
      have s1 : w6.cell? ⟨z, 1, none⟩ = some (.slice none 0 0) := kz.cell 1
      have f0 : w6.frozen? ⟨z, 0, none⟩ = false := kz.frozen 0
      have f1 : w6.frozen? ⟨z, 1, none⟩ = false := kz.frozen 1
      have HB7 := Lib.hid BS8.out.below
      clear kz
      obtain ⟨l1, hl1⟩ : ∃ l, l = L32 (num / Nat.gcd num d) := ⟨_, rfl⟩
      obtain ⟨l2, hl2⟩ : ∃ l, l = L32 (d / Nat.gcd num d) := ⟨_, rfl⟩
      rw [← hl1] at hla hca ⊢
      rw [← hl2] at hlb hcb ⊢
      have HL1 := Lib.hid hl1
      have HL2 := Lib.hid hl2
      have HCA := Lib.hid hca
      have HCB := Lib.hid hcb
      have HFA := Lib.hid hfa
      have HFB := Lib.hid hfb
      clear hl1 hl2 hca hcb hfa hfb
      unfold fv
      go_wp2
      refine bodyPost_ret (v := .tuple #[fv Da l1 ca Db l2 cb, .int .i64 0]) (by unfold fv; simp [results, Try.results18, go_sem, s0, s1]) rfl ?_
      refine ⟨.inl ⟨HFIT.out, Da, ca, Db, cb, by rw [← HL1.out, ← HL2.out], by rw [← HL1.out]; exact hla, by rw [← HL2.out]; exact hlb, ?_, ?_, HFA.out.mono HW6.out, HFB.out.mono HW6.out⟩, ?_⟩
      · rw [← HL1.out]
        exact (HCA.out.set_ HFA.out HZ6.out _ _).set_ HFA.out HZ6.out _ _
      · rw [← HL2.out]
        exact (HCB.out.set_ HFB.out HZ6.out _ _).set_ HFB.out HZ6.out _ _
      · repeat' (first | exact HB7.out | refine bl_alloc ?_ _ | refine bse ?_ (by assumption) _ _ | refine Below.drew ?_)
    · have HN := Lib.hid (show ¬(L32 p ≤ 64 ∧ L32 q ≤ 64 ∧ L32 d ≤ 64 ∧ L32 num ≤ 64) from fun h => by have := h.2.2.2; omega)
      clear N64 qb lb
      obtain ⟨_, lz, kz⟩ := BS6.out.get (.tail _ (.tail _ (.tail _ (.head _))))
      have s0 : w5.cell? ⟨z, 0, none⟩ = some (.slice none 0 0) := kz.cell 0
      have s1 : w5.cell? ⟨z, 1, none⟩ = some (.slice none 0 0) := kz.cell 1
      have f0 : w5.frozen? ⟨z, 0, none⟩ = false := kz.frozen 0
      have f1 : w5.frozen? ⟨z, 1, none⟩ = false := kz.frozen 1
      have HB7 := Lib.hid BS6.out.below
      clear kz
      go_wp2
      refine bodyPost_ret (v := .tuple #[fv none 0 0 none 0 0, .int .i64 9]) (by unfold fv; simp [results, Try.results18, go_sem, s0, s1, lz]) rfl ?_
      refine ⟨.inr ⟨HN.out, rfl⟩, ?_⟩
      repeat' (first | exact HB7.out | refine bl_alloc ?_ _ | refine bse ?_ (by assumption) _ _ | refine Below.drew ?_)
  · have HN := Lib.hid (show ¬(L32 p ≤ 64 ∧ L32 q ≤ 64 ∧ L32 d ≤ 64 ∧ L32 num ≤ 64) from fun h => hno ⟨h.1, h.2.1, h.2.2.1⟩)
    have lz1 : z < w4.heap.size + 1 := by omega
    have lz2 : z < w4.heap.size + 1 + 1 := by omega
    have lz3 : z < w4.heap.size + 1 + 1 + 1 := by omega
    clear hno
    unfold natv
    go_wp2
    refine bodyPost_ret (v := .tuple #[fv none 0 0 none 0 0, .int .i64 9]) (by unfold fv; simp [results, Try.results18, go_sem, s0, s1, lz, lz1, lz2]) rfl ?_
    refine ⟨.inr ⟨HN.out, rfl⟩, ?_⟩
    repeat' (first | exact HB7.out | refine bl_alloc ?_ _ | refine bse ?_ (by assumption) _ _ | refine Below.drew ?_)
end Fr
end Go.Proofs.Ytiflmnmkmpjecaa
