/- The walks of frac.Add, Sub, Mul, Div. -/
import Derived.Test.YtiflmnmkmpjecaaG7
set_option linter.unusedVariables false
namespace Go.Proofs.Ytiflmnmkmpjecaa
open Go.RowKit
namespace Fr
theorem fok_pos {x y : Nat} (h : fok x y = true) : 0 < y := by
  unfold fok at h
  simp only [Bool.and_eq_true, decide_eq_true_eq] at h
  exact h.1
set_option maxHeartbeats 4000000 in
theorem add_no {D0 D1 D2 D3 : Option Addr} {n0 n1 n2 n3 c0 c1 c2 c3 : Nat} {b0 b1 : Bool} {w : World}
    (k0 : ∀ w', Below w.heap.size w w' → Calls Try.prog 48 #[.agg #[.slice D0 n0 c0, .slice D1 n1 c1]] w' fun e w'' => e = .returned (.bool b0) ∧ Below w'.heap.size w' w'')
    (k1 : ∀ w', Below w.heap.size w w' → Calls Try.prog 48 #[.agg #[.slice D2 n2 c2, .slice D3 n3 c3]] w' fun e w'' => e = .returned (.bool b1) ∧ Below w'.heap.size w' w'') (hb : b0 = false ∨ b0 = true ∧ b1 = false) :
    Calls Try.prog 36 #[fv D0 n0 c0 D1 n1 c1, fv D2 n2 c2 D3 n3 c3] w fun e w' => Err e 2 ∧ Below w.heap.size w w' := by
  have HK := Lib.hid k0
  have HK2 := Lib.hid k1
  have BS0 := Lib.hid (boxesF w (.slice D0 n0 c0) (.slice D1 n1 c1) (.slice D2 n2 c2) (.slice D3 n3 c3))
  clear k0 k1
  unfold fv
  rcases hb with rfl | ⟨rfl, rfl⟩
  · go_enter Try.func36, Try.ntmps36
    go_wp2_with fail
    refine (HK.out _ BS0.out.below).mono ?_
    rintro e w1 ⟨rfl, hb1⟩
    have bs := BS0.out.on hb1
    obtain ⟨z, hz⟩ : ∃ z, z = w.heap.size + 1 + 1 := ⟨_, rfl⟩
    rw [← hz] at bs ⊢
    have hzw : w.heap.size ≤ z := by omega
    obtain ⟨_, lz, kz⟩ := bs.get (.head _)
    have HB := Lib.hid bs.below
    have r0 : w1.cell? ⟨z, 0, none⟩ = some (.slice none 0 0) := kz.cell 0
    have r1 : w1.cell? ⟨z, 1, none⟩ = some (.slice none 0 0) := kz.cell 1
    have f0 : w1.frozen? ⟨z, 0, none⟩ = false := kz.frozen 0
    have f1 : w1.frozen? ⟨z, 1, none⟩ = false := kz.frozen 1
    clear bs kz hz hb1
    go_wp2
    refine bodyPost_ret (v := .tuple #[fv none 0 0 none 0 0, .int .i64 2]) (by unfold fv; simp [results, Try.results36, go_sem, r0, r1]) rfl ?_
    refine ⟨rfl, ?_⟩
    repeat' (first | exact HB.out | refine bl_alloc ?_ _ | refine bse ?_ (by assumption) _ _ | refine Below.drew ?_)
  · go_enter Try.func36, Try.ntmps36
    go_wp2_with fail
    refine (HK.out _ BS0.out.below).mono ?_
    rintro e w1 ⟨rfl, hb1⟩
    have BS1 := Lib.hid (BS0.out.on hb1)
    obtain ⟨_, lb, kb⟩ := BS1.out.get (.tail _ (.head _))
    have qa : w1.cell? ⟨w.heap.size + 1, 0, none⟩ = some (.slice D2 n2 c2) := kb.cell 0
    have qb : w1.cell? ⟨w.heap.size + 1, 1, none⟩ = some (.slice D3 n3 c3) := kb.cell 1
    clear hb1 kb BS0
    go_wp2_with fail
    refine (HK2.out _ BS1.out.below).mono ?_
    rintro e w2 ⟨rfl, hb1⟩
    clear qa qb lb
    have bs := BS1.out.on hb1
    obtain ⟨z, hz⟩ : ∃ z, z = w.heap.size + 1 + 1 := ⟨_, rfl⟩
    rw [← hz] at bs ⊢
    have hzw : w.heap.size ≤ z := by omega
    obtain ⟨_, lz, kz⟩ := bs.get (.head _)
    have HB := Lib.hid bs.below
    have r0 : w2.cell? ⟨z, 0, none⟩ = some (.slice none 0 0) := kz.cell 0
    have r1 : w2.cell? ⟨z, 1, none⟩ = some (.slice none 0 0) := kz.cell 1
    have f0 : w2.frozen? ⟨z, 0, none⟩ = false := kz.frozen 0
    have f1 : w2.frozen? ⟨z, 1, none⟩ = false := kz.frozen 1
    clear bs kz hz hb1
    go_wp2
    refine bodyPost_ret (v := .tuple #[fv none 0 0 none 0 0, .int .i64 2]) (by unfold fv; simp [results, Try.results36, go_sem, r0, r1]) rfl ?_
    refine ⟨rfl, ?_⟩
    repeat' (first | exact HB.out | refine bl_alloc ?_ _ | refine bse ?_ (by assumption) _ _ | refine Below.drew ?_)
set_option maxHeartbeats 4000000 in
theorem sub_no {D0 D1 D2 D3 : Option Addr} {n0 n1 n2 n3 c0 c1 c2 c3 : Nat} {b0 b1 : Bool} {w : World}
    (k0 : ∀ w', Below w.heap.size w w' → Calls Try.prog 48 #[.agg #[.slice D0 n0 c0, .slice D1 n1 c1]] w' fun e w'' => e = .returned (.bool b0) ∧ Below w'.heap.size w' w'')
    (k1 : ∀ w', Below w.heap.size w w' → Calls Try.prog 48 #[.agg #[.slice D2 n2 c2, .slice D3 n3 c3]] w' fun e w'' => e = .returned (.bool b1) ∧ Below w'.heap.size w' w'') (hb : b0 = false ∨ b0 = true ∧ b1 = false) :
    Calls Try.prog 38 #[fv D0 n0 c0 D1 n1 c1, fv D2 n2 c2 D3 n3 c3] w fun e w' => Err e 2 ∧ Below w.heap.size w w' := by
  have HK := Lib.hid k0
  have HK2 := Lib.hid k1
  have BS0 := Lib.hid (boxesF w (.slice D0 n0 c0) (.slice D1 n1 c1) (.slice D2 n2 c2) (.slice D3 n3 c3))
  clear k0 k1
  unfold fv
  rcases hb with rfl | ⟨rfl, rfl⟩
  · go_enter Try.func38, Try.ntmps38
    go_wp2_with fail
    refine (HK.out _ BS0.out.below).mono ?_
    rintro e w1 ⟨rfl, hb1⟩
    have bs := BS0.out.on hb1
    obtain ⟨z, hz⟩ : ∃ z, z = w.heap.size + 1 + 1 := ⟨_, rfl⟩
    rw [← hz] at bs ⊢
    have hzw : w.heap.size ≤ z := by omega
    obtain ⟨_, lz, kz⟩ := bs.get (.head _)
    have HB := Lib.hid bs.below
    have r0 : w1.cell? ⟨z, 0, none⟩ = some (.slice none 0 0) := kz.cell 0
    have r1 : w1.cell? ⟨z, 1, none⟩ = some (.slice none 0 0) := kz.cell 1
    have f0 : w1.frozen? ⟨z, 0, none⟩ = false := kz.frozen 0
    have f1 : w1.frozen? ⟨z, 1, none⟩ = false := kz.frozen 1
    clear bs kz hz hb1
    go_wp2
    refine bodyPost_ret (v := .tuple #[fv none 0 0 none 0 0, .int .i64 2]) (by unfold fv; simp [results, Try.results38, go_sem, r0, r1]) rfl ?_
    refine ⟨rfl, ?_⟩
    repeat' (first | exact HB.out | refine bl_alloc ?_ _ | refine bse ?_ (by assumption) _ _ | refine Below.drew ?_)
  · go_enter Try.func38, Try.ntmps38
    go_wp2_with fail
    refine (HK.out _ BS0.out.below).mono ?_
    rintro e w1 ⟨rfl, hb1⟩
    have BS1 := Lib.hid (BS0.out.on hb1)
    obtain ⟨_, lb, kb⟩ := BS1.out.get (.tail _ (.head _))
    have qa : w1.cell? ⟨w.heap.size + 1, 0, none⟩ = some (.slice D2 n2 c2) := kb.cell 0
    have qb : w1.cell? ⟨w.heap.size + 1, 1, none⟩ = some (.slice D3 n3 c3) := kb.cell 1
    clear hb1 kb BS0
    go_wp2_with fail
    refine (HK2.out _ BS1.out.below).mono ?_
    rintro e w2 ⟨rfl, hb1⟩
    clear qa qb lb
    have bs := BS1.out.on hb1
    obtain ⟨z, hz⟩ : ∃ z, z = w.heap.size + 1 + 1 := ⟨_, rfl⟩
    rw [← hz] at bs ⊢
    have hzw : w.heap.size ≤ z := by omega
    obtain ⟨_, lz, kz⟩ := bs.get (.head _)
    have HB := Lib.hid bs.below
    have r0 : w2.cell? ⟨z, 0, none⟩ = some (.slice none 0 0) := kz.cell 0
    have r1 : w2.cell? ⟨z, 1, none⟩ = some (.slice none 0 0) := kz.cell 1
    have f0 : w2.frozen? ⟨z, 0, none⟩ = false := kz.frozen 0
    have f1 : w2.frozen? ⟨z, 1, none⟩ = false := kz.frozen 1
    clear bs kz hz hb1
    go_wp2
    refine bodyPost_ret (v := .tuple #[fv none 0 0 none 0 0, .int .i64 2]) (by unfold fv; simp [results, Try.results38, go_sem, r0, r1]) rfl ?_
    refine ⟨rfl, ?_⟩
    repeat' (first | exact HB.out | refine bl_alloc ?_ _ | refine bse ?_ (by assumption) _ _ | refine Below.drew ?_)
set_option maxHeartbeats 4000000 in
theorem mul_no {D0 D1 D2 D3 : Option Addr} {n0 n1 n2 n3 c0 c1 c2 c3 : Nat} {b0 b1 : Bool} {w : World}
    (k0 : ∀ w', Below w.heap.size w w' → Calls Try.prog 48 #[.agg #[.slice D0 n0 c0, .slice D1 n1 c1]] w' fun e w'' => e = .returned (.bool b0) ∧ Below w'.heap.size w' w'')
    (k1 : ∀ w', Below w.heap.size w w' → Calls Try.prog 48 #[.agg #[.slice D2 n2 c2, .slice D3 n3 c3]] w' fun e w'' => e = .returned (.bool b1) ∧ Below w'.heap.size w' w'') (hb : b0 = false ∨ b0 = true ∧ b1 = false) :
    Calls Try.prog 37 #[fv D0 n0 c0 D1 n1 c1, fv D2 n2 c2 D3 n3 c3] w fun e w' => Err e 2 ∧ Below w.heap.size w w' := by
  have HK := Lib.hid k0
  have HK2 := Lib.hid k1
  have BS0 := Lib.hid (boxesF w (.slice D0 n0 c0) (.slice D1 n1 c1) (.slice D2 n2 c2) (.slice D3 n3 c3))
  clear k0 k1
  unfold fv
  rcases hb with rfl | ⟨rfl, rfl⟩
  · go_enter Try.func37, Try.ntmps37
    go_wp2_with fail
    refine (HK.out _ BS0.out.below).mono ?_
    rintro e w1 ⟨rfl, hb1⟩
    have bs := BS0.out.on hb1
    obtain ⟨z, hz⟩ : ∃ z, z = w.heap.size + 1 + 1 := ⟨_, rfl⟩
    rw [← hz] at bs ⊢
    have hzw : w.heap.size ≤ z := by omega
    obtain ⟨_, lz, kz⟩ := bs.get (.head _)
    have HB := Lib.hid bs.below
    have r0 : w1.cell? ⟨z, 0, none⟩ = some (.slice none 0 0) := kz.cell 0
    have r1 : w1.cell? ⟨z, 1, none⟩ = some (.slice none 0 0) := kz.cell 1
    have f0 : w1.frozen? ⟨z, 0, none⟩ = false := kz.frozen 0
    have f1 : w1.frozen? ⟨z, 1, none⟩ = false := kz.frozen 1
    clear bs kz hz hb1
    go_wp2
    refine bodyPost_ret (v := .tuple #[fv none 0 0 none 0 0, .int .i64 2]) (by unfold fv; simp [results, Try.results37, go_sem, r0, r1]) rfl ?_
    refine ⟨rfl, ?_⟩
    repeat' (first | exact HB.out | refine bl_alloc ?_ _ | refine bse ?_ (by assumption) _ _ | refine Below.drew ?_)
  · go_enter Try.func37, Try.ntmps37
    go_wp2_with fail
    refine (HK.out _ BS0.out.below).mono ?_
    rintro e w1 ⟨rfl, hb1⟩
    have BS1 := Lib.hid (BS0.out.on hb1)
    obtain ⟨_, lb, kb⟩ := BS1.out.get (.tail _ (.head _))
    have qa : w1.cell? ⟨w.heap.size + 1, 0, none⟩ = some (.slice D2 n2 c2) := kb.cell 0
    have qb : w1.cell? ⟨w.heap.size + 1, 1, none⟩ = some (.slice D3 n3 c3) := kb.cell 1
    clear hb1 kb BS0
    go_wp2_with fail
    refine (HK2.out _ BS1.out.below).mono ?_
    rintro e w2 ⟨rfl, hb1⟩
    clear qa qb lb
    have bs := BS1.out.on hb1
    obtain ⟨z, hz⟩ : ∃ z, z = w.heap.size + 1 + 1 := ⟨_, rfl⟩
    rw [← hz] at bs ⊢
    have hzw : w.heap.size ≤ z := by omega
    obtain ⟨_, lz, kz⟩ := bs.get (.head _)
    have HB := Lib.hid bs.below
    have r0 : w2.cell? ⟨z, 0, none⟩ = some (.slice none 0 0) := kz.cell 0
    have r1 : w2.cell? ⟨z, 1, none⟩ = some (.slice none 0 0) := kz.cell 1
    have f0 : w2.frozen? ⟨z, 0, none⟩ = false := kz.frozen 0
    have f1 : w2.frozen? ⟨z, 1, none⟩ = false := kz.frozen 1
    clear bs kz hz hb1
    go_wp2
    refine bodyPost_ret (v := .tuple #[fv none 0 0 none 0 0, .int .i64 2]) (by unfold fv; simp [results, Try.results37, go_sem, r0, r1]) rfl ?_
    refine ⟨rfl, ?_⟩
    repeat' (first | exact HB.out | refine bl_alloc ?_ _ | refine bse ?_ (by assumption) _ _ | refine Below.drew ?_)
set_option maxHeartbeats 4000000 in
set_option maxRecDepth 100000 in
theorem add_ok {D0 D1 D2 D3 : Option Addr} {n0 n1 n2 n3 c0 c1 c2 c3 xn xd yn yd : Nat} {w : World} (hn0 : n0 ≤ 64) (hn1 : n1 ≤ 64) (hn2 : n2 ≤ 64) (hn3 : n3 ≤ 64) (h0 : n0 = L32 xn) (h1 : n1 = L32 xd) (h2 : n2 = L32 yn) (h3 : n3 = L32 yd)
    (hx0 : Cells w D0 n0 (Lm (d32 xn))) (hx1 : Cells w D1 n1 (Lm (d32 xd))) (hx2 : Cells w D2 n2 (Lm (d32 yn))) (hx3 : Cells w D3 n3 (Lm (d32 yd))) (hf : fok xn xd = true) (hg : fok yn yd = true) :
    Calls Try.prog 36 #[fv D0 n0 c0 D1 n1 c1, fv D2 n2 c2 D3 n3 c3] w fun e w' => Out w.heap.size w' e (fits_add xn xd yn yd) ((xn * yd + yn * xd) / Nat.gcd (xn * yd + yn * xd) (xd * yd)) ((xd * yd) / Nat.gcd (xn * yd + yn * xd) (xd * yd)) ∧ Below w.heap.size w w' := by
  have HXD := Lib.hid (fok_pos hf)
  have HYD := Lib.hid (fok_pos hg)
  obtain ⟨fits, hfits⟩ : ∃ f : Prop, f = fits_add xn xd yn yd := ⟨_, rfl⟩
  obtain ⟨ra, hra⟩ : ∃ v, v = (xn * yd + yn * xd) / Nat.gcd (xn * yd + yn * xd) (xd * yd) := ⟨_, rfl⟩
  obtain ⟨rb, hrb⟩ : ∃ v, v = (xd * yd) / Nat.gcd (xn * yd + yn * xd) (xd * yd) := ⟨_, rfl⟩
  rw [← hfits, ← hra, ← hrb]
  have HFT := Lib.hid hfits
  have HRA := Lib.hid hra
  have HRB := Lib.hid hrb
  clear hfits hra hrb
  have H0 := Lib.hid h0
  have H1 := Lib.hid h1
  have H2 := Lib.hid h2
  have H3 := Lib.hid h3
  have HK := fun (w' : World) (h : Below w.heap.size w w') => valid_any (c := c0) (c' := c1) hn0 hn1 H0.out H1.out (hx0.below h) (hx1.below h)
  have HK2 := fun (w' : World) (h : Below w.heap.size w w') => valid_any (c := c2) (c' := c3) hn2 hn3 H2.out H3.out (hx2.below h) (hx3.below h)
  rw [hf] at HK
  rw [hg] at HK2
  have BS0 := Lib.hid (boxesF w (.slice D0 n0 c0) (.slice D1 n1 c1) (.slice D2 n2 c2) (.slice D3 n3 c3))
  clear hf hg h0 h1 h2 h3
  unfold fv at HK HK2 ⊢
  have HKH := Lib.hid HK
  have HKH2 := Lib.hid HK2
  clear HK HK2
  go_enter Try.func36, Try.ntmps36
  go_wp2_with fail
  refine (HKH.out _ BS0.out.below).mono ?_
  rintro e w1 ⟨rfl, hb1⟩
  have BS1 := Lib.hid (BS0.out.on hb1)
  obtain ⟨_, lb, kb⟩ := BS1.out.get (.tail _ (.head _))
  have qa : w1.cell? ⟨w.heap.size + 1, 0, none⟩ = some (.slice D2 n2 c2) := kb.cell 0
  have qb : w1.cell? ⟨w.heap.size + 1, 1, none⟩ = some (.slice D3 n3 c3) := kb.cell 1
  clear hb1 kb BS0
  go_wp2_with fail
  refine (HKH2.out _ BS1.out.below).mono ?_
  rintro e w2 ⟨rfl, hb1⟩
  clear qa qb lb
  obtain ⟨z, hz⟩ : ∃ z, z = w.heap.size + 1 + 1 := ⟨_, rfl⟩
  have bs2 := BS1.out.on hb1
  rw [← hz] at bs2 ⊢
  have hzw : w.heap.size ≤ z := by omega
  have BS2 := Lib.hid bs2
  obtain ⟨_, la2, ka⟩ := BS2.out.get (.tail _ (.tail _ (.head _)))
  obtain ⟨_, lb2, kb⟩ := BS2.out.get (.tail _ (.head _))
  have r0 : w2.cell? ⟨w.heap.size, 0, none⟩ = some (.slice D0 n0 c0) := ka.cell 0
  have r1 : w2.cell? ⟨w.heap.size, 1, none⟩ = some (.slice D1 n1 c1) := ka.cell 1
  have r2 : w2.cell? ⟨w.heap.size + 1, 0, none⟩ = some (.slice D2 n2 c2) := kb.cell 0
  have r3 : w2.cell? ⟨w.heap.size + 1, 1, none⟩ = some (.slice D3 n3 c3) := kb.cell 1
  clear hb1 ka kb bs2 hz BS1
  go_wp2_with fail
  refine (comb_add (xn := xn) (xd := xd) (yn := yn) (yd := yd) hn0 hn1 hn2 hn3 H0.out H1.out H2.out H3.out (hx0.below BS2.out.below) (hx1.below BS2.out.below) (hx2.below BS2.out.below) (hx3.below BS2.out.below) HXD.out HYD.out).mono ?_
  rintro e w5 ⟨hr, hb5⟩
  rw [← HFT.out, ← HRA.out, ← HRB.out] at hr
  have HZ6 := Lib.hid (BS2.out.get (.head _)).2.1
  have HW6 := Lib.hid BS2.out.below.size
  have BS5 := Lib.hid (BS2.out.on hb5)
  clear r0 r1 r2 r3 la2 lb2 hb5
  obtain ⟨_, lz, kz⟩ := BS5.out.get (.head _)
  have s0 : w5.cell? ⟨z, 0, none⟩ = some (.slice none 0 0) := kz.cell 0
  have s1 : w5.cell? ⟨z, 1, none⟩ = some (.slice none 0 0) := kz.cell 1
  have f0 : w5.frozen? ⟨z, 0, none⟩ = false := kz.frozen 0
  have f1 : w5.frozen? ⟨z, 1, none⟩ = false := kz.frozen 1
  have HB7 := Lib.hid BS5.out.below
  clear kz
  rcases hr with ⟨hfit, Da, ca, Db, cb, rfl, hla, hlb, hca, hcb, hfa, hfb⟩ | ⟨hfit, rfl⟩
  · skip
    obtain ⟨l1, hl1⟩ : ∃ l, l = L32 (ra) := ⟨_, rfl⟩
    obtain ⟨l2, hl2⟩ : ∃ l, l = L32 (rb) := ⟨_, rfl⟩
    rw [← hl1] at hla hca ⊢
    rw [← hl2] at hlb hcb ⊢
    have HL1 := Lib.hid hl1
    have HL2 := Lib.hid hl2
    have HCA := Lib.hid hca
    have HCB := Lib.hid hcb
    have HFA := Lib.hid hfa
    have HFB := Lib.hid hfb
    clear hl1 hl2 hca hcb hfa hfb
    unfold fv
    go_wp2
    refine bodyPost_ret (v := .tuple #[fv Da l1 ca Db l2 cb, .int .i64 0]) (by unfold fv; simp [results, Try.results36, go_sem, s0, s1]) rfl ?_
    refine ⟨.inl ⟨hfit, Da, ca, Db, cb, by rw [← HL1.out, ← HL2.out], by rw [← HL1.out]; exact hla, by rw [← HL2.out]; exact hlb, ?_, ?_, HFA.out.mono HW6.out, HFB.out.mono HW6.out⟩, ?_⟩
    · rw [← HL1.out]
      exact (HCA.out.set_ HFA.out HZ6.out _ _).set_ HFA.out HZ6.out _ _
    · rw [← HL2.out]
      exact (HCB.out.set_ HFB.out HZ6.out _ _).set_ HFB.out HZ6.out _ _
    · repeat' (first | exact HB7.out | refine bl_alloc ?_ _ | refine bse ?_ (by assumption) _ _ | refine Below.drew ?_)
  · skip
    unfold fv
    go_wp2
    refine bodyPost_ret (v := .tuple #[fv none 0 0 none 0 0, .int .i64 9]) (by unfold fv; simp [results, Try.results36, go_sem, s0, s1]) rfl ?_
    refine ⟨.inr ⟨hfit, rfl⟩, ?_⟩
    repeat' (first | exact HB7.out | refine bl_alloc ?_ _ | refine bse ?_ (by assumption) _ _ | refine Below.drew ?_)
set_option maxHeartbeats 4000000 in
set_option maxRecDepth 100000 in
theorem sub_ok {D0 D1 D2 D3 : Option Addr} {n0 n1 n2 n3 c0 c1 c2 c3 xn xd yn yd : Nat} {w : World} (hn0 : n0 ≤ 64) (hn1 : n1 ≤ 64) (hn2 : n2 ≤ 64) (hn3 : n3 ≤ 64) (h0 : n0 = L32 xn) (h1 : n1 = L32 xd) (h2 : n2 = L32 yn) (h3 : n3 = L32 yd)
    (hx0 : Cells w D0 n0 (Lm (d32 xn))) (hx1 : Cells w D1 n1 (Lm (d32 xd))) (hx2 : Cells w D2 n2 (Lm (d32 yn))) (hx3 : Cells w D3 n3 (Lm (d32 yd))) (hf : fok xn xd = true) (hg : fok yn yd = true) (hle : yn * xd ≤ xn * yd) :
    Calls Try.prog 38 #[fv D0 n0 c0 D1 n1 c1, fv D2 n2 c2 D3 n3 c3] w fun e w' => Out w.heap.size w' e (fits_sub xn xd yn yd) ((xn * yd - yn * xd) / Nat.gcd (xn * yd - yn * xd) (xd * yd)) ((xd * yd) / Nat.gcd (xn * yd - yn * xd) (xd * yd)) ∧ Below w.heap.size w w' := by
  have HXD := Lib.hid (fok_pos hf)
  have HYD := Lib.hid (fok_pos hg)
  have HLE := Lib.hid hle
  clear hle
  obtain ⟨fits, hfits⟩ : ∃ f : Prop, f = fits_sub xn xd yn yd := ⟨_, rfl⟩
  obtain ⟨ra, hra⟩ : ∃ v, v = (xn * yd - yn * xd) / Nat.gcd (xn * yd - yn * xd) (xd * yd) := ⟨_, rfl⟩
  obtain ⟨rb, hrb⟩ : ∃ v, v = (xd * yd) / Nat.gcd (xn * yd - yn * xd) (xd * yd) := ⟨_, rfl⟩
  rw [← hfits, ← hra, ← hrb]
  have HFT := Lib.hid hfits
  have HRA := Lib.hid hra
  have HRB := Lib.hid hrb
  clear hfits hra hrb
  have H0 := Lib.hid h0
  have H1 := Lib.hid h1
  have H2 := Lib.hid h2
  have H3 := Lib.hid h3
  have HK := fun (w' : World) (h : Below w.heap.size w w') => valid_any (c := c0) (c' := c1) hn0 hn1 H0.out H1.out (hx0.below h) (hx1.below h)
  have HK2 := fun (w' : World) (h : Below w.heap.size w w') => valid_any (c := c2) (c' := c3) hn2 hn3 H2.out H3.out (hx2.below h) (hx3.below h)
  rw [hf] at HK
  rw [hg] at HK2
  have BS0 := Lib.hid (boxesF w (.slice D0 n0 c0) (.slice D1 n1 c1) (.slice D2 n2 c2) (.slice D3 n3 c3))
  clear hf hg h0 h1 h2 h3
  unfold fv at HK HK2 ⊢
  have HKH := Lib.hid HK
  have HKH2 := Lib.hid HK2
  clear HK HK2
  go_enter Try.func38, Try.ntmps38
  go_wp2_with fail
  refine (HKH.out _ BS0.out.below).mono ?_
  rintro e w1 ⟨rfl, hb1⟩
  have BS1 := Lib.hid (BS0.out.on hb1)
  obtain ⟨_, lb, kb⟩ := BS1.out.get (.tail _ (.head _))
  have qa : w1.cell? ⟨w.heap.size + 1, 0, none⟩ = some (.slice D2 n2 c2) := kb.cell 0
  have qb : w1.cell? ⟨w.heap.size + 1, 1, none⟩ = some (.slice D3 n3 c3) := kb.cell 1
  clear hb1 kb BS0
  go_wp2_with fail
  refine (HKH2.out _ BS1.out.below).mono ?_
  rintro e w2 ⟨rfl, hb1⟩
  clear qa qb lb
  obtain ⟨z, hz⟩ : ∃ z, z = w.heap.size + 1 + 1 := ⟨_, rfl⟩
  have bs2 := BS1.out.on hb1
  rw [← hz] at bs2 ⊢
  have hzw : w.heap.size ≤ z := by omega
  have BS2 := Lib.hid bs2
  obtain ⟨_, la2, ka⟩ := BS2.out.get (.tail _ (.tail _ (.head _)))
  obtain ⟨_, lb2, kb⟩ := BS2.out.get (.tail _ (.head _))
  have r0 : w2.cell? ⟨w.heap.size, 0, none⟩ = some (.slice D0 n0 c0) := ka.cell 0
  have r1 : w2.cell? ⟨w.heap.size, 1, none⟩ = some (.slice D1 n1 c1) := ka.cell 1
  have r2 : w2.cell? ⟨w.heap.size + 1, 0, none⟩ = some (.slice D2 n2 c2) := kb.cell 0
  have r3 : w2.cell? ⟨w.heap.size + 1, 1, none⟩ = some (.slice D3 n3 c3) := kb.cell 1
  clear hb1 ka kb bs2 hz BS1
  have HC0 : Hid (((cmpI (xn * yd) (yn * xd)) < 0) = False) := Lib.hid (eq_false (by unfold cmpI; have := HLE.out; rw [if_neg (by omega)]; split <;> omega))
  go_wp2_with fail
  refine (compare_any (xn := xn) (xd := xd) (yn := yn) (yd := yd) hn0 hn1 hn2 hn3 H0.out H1.out H2.out H3.out (hx0.below BS2.out.below) (hx1.below BS2.out.below) (hx2.below BS2.out.below) (hx3.below BS2.out.below)).mono ?_
  rintro e w3 ⟨rfl, hb3⟩
  obtain ⟨cc, hcc⟩ : ∃ v, v = cmpI (xn * yd) (yn * xd) := ⟨_, rfl⟩
  rw [← hcc] at HC0 ⊢
  have hc0 := HC0.out
  have BS3 := Lib.hid (BS2.out.on hb3)
  clear r0 r1 r2 r3 la2 lb2 hb3 hcc HC0
  obtain ⟨_, la2, ka⟩ := BS3.out.get (.tail _ (.tail _ (.head _)))
  obtain ⟨_, lb2, kb⟩ := BS3.out.get (.tail _ (.head _))
  have r0 : w3.cell? ⟨w.heap.size, 0, none⟩ = some (.slice D0 n0 c0) := ka.cell 0
  have r1 : w3.cell? ⟨w.heap.size, 1, none⟩ = some (.slice D1 n1 c1) := ka.cell 1
  have r2 : w3.cell? ⟨w.heap.size + 1, 0, none⟩ = some (.slice D2 n2 c2) := kb.cell 0
  have r3 : w3.cell? ⟨w.heap.size + 1, 1, none⟩ = some (.slice D3 n3 c3) := kb.cell 1
  clear ka kb
  go_wp2_with fail
  refine (comb_sub (xn := xn) (xd := xd) (yn := yn) (yd := yd) hn0 hn1 hn2 hn3 H0.out H1.out H2.out H3.out (hx0.below BS3.out.below) (hx1.below BS3.out.below) (hx2.below BS3.out.below) (hx3.below BS3.out.below) HXD.out HYD.out HLE.out).mono ?_
  rintro e w5 ⟨hr, hb5⟩
  rw [← HFT.out, ← HRA.out, ← HRB.out] at hr
  have HZ6 := Lib.hid (BS3.out.get (.head _)).2.1
  have HW6 := Lib.hid BS3.out.below.size
  have BS5 := Lib.hid (BS3.out.on hb5)
  clear r0 r1 r2 r3 la2 lb2 hb5
  obtain ⟨_, lz, kz⟩ := BS5.out.get (.head _)
  have s0 : w5.cell? ⟨z, 0, none⟩ = some (.slice none 0 0) := kz.cell 0
  have s1 : w5.cell? ⟨z, 1, none⟩ = some (.slice none 0 0) := kz.cell 1
  have f0 : w5.frozen? ⟨z, 0, none⟩ = false := kz.frozen 0
  have f1 : w5.frozen? ⟨z, 1, none⟩ = false := kz.frozen 1
  have HB7 := Lib.hid BS5.out.below
  clear kz
  rcases hr with ⟨hfit, Da, ca, Db, cb, rfl, hla, hlb, hca, hcb, hfa, hfb⟩ | ⟨hfit, rfl⟩
  · skip
    obtain ⟨l1, hl1⟩ : ∃ l, l = L32 (ra) := ⟨_, rfl⟩
    obtain ⟨l2, hl2⟩ : ∃ l, l = L32 (rb) := ⟨_, rfl⟩
    rw [← hl1] at hla hca ⊢
    rw [← hl2] at hlb hcb ⊢
    have HL1 := Lib.hid hl1
    have HL2 := Lib.hid hl2
    have HCA := Lib.hid hca
    have HCB := Lib.hid hcb
    have HFA := Lib.hid hfa
    have HFB := Lib.hid hfb
    clear hl1 hl2 hca hcb hfa hfb
    unfold fv
    go_wp2
    refine bodyPost_ret (v := .tuple #[fv Da l1 ca Db l2 cb, .int .i64 0]) (by unfold fv; simp [results, Try.results38, go_sem, s0, s1]) rfl ?_
    refine ⟨.inl ⟨hfit, Da, ca, Db, cb, by rw [← HL1.out, ← HL2.out], by rw [← HL1.out]; exact hla, by rw [← HL2.out]; exact hlb, ?_, ?_, HFA.out.mono HW6.out, HFB.out.mono HW6.out⟩, ?_⟩
    · rw [← HL1.out]
      exact (HCA.out.set_ HFA.out HZ6.out _ _).set_ HFA.out HZ6.out _ _
    · rw [← HL2.out]
      exact (HCB.out.set_ HFB.out HZ6.out _ _).set_ HFB.out HZ6.out _ _
    · repeat' (first | exact HB7.out | refine bl_alloc ?_ _ | refine bse ?_ (by assumption) _ _ | refine Below.drew ?_)
  · skip
    unfold fv
    go_wp2
    refine bodyPost_ret (v := .tuple #[fv none 0 0 none 0 0, .int .i64 9]) (by unfold fv; simp [results, Try.results38, go_sem, s0, s1]) rfl ?_
    refine ⟨.inr ⟨hfit, rfl⟩, ?_⟩
    repeat' (first | exact HB7.out | refine bl_alloc ?_ _ | refine bse ?_ (by assumption) _ _ | refine Below.drew ?_)
set_option maxHeartbeats 4000000 in
set_option maxRecDepth 100000 in
theorem sub_less {D0 D1 D2 D3 : Option Addr} {n0 n1 n2 n3 c0 c1 c2 c3 xn xd yn yd : Nat} {w : World} (hn0 : n0 ≤ 64) (hn1 : n1 ≤ 64) (hn2 : n2 ≤ 64) (hn3 : n3 ≤ 64) (h0 : n0 = L32 xn) (h1 : n1 = L32 xd) (h2 : n2 = L32 yn) (h3 : n3 = L32 yd)
    (hx0 : Cells w D0 n0 (Lm (d32 xn))) (hx1 : Cells w D1 n1 (Lm (d32 xd))) (hx2 : Cells w D2 n2 (Lm (d32 yn))) (hx3 : Cells w D3 n3 (Lm (d32 yd))) (hf : fok xn xd = true) (hg : fok yn yd = true) (hlt : xn * yd < yn * xd) :
    Calls Try.prog 38 #[fv D0 n0 c0 D1 n1 c1, fv D2 n2 c2 D3 n3 c3] w fun e w' => Err e 2 ∧ Below w.heap.size w w' := by
  have HLT := Lib.hid hlt
  clear hlt
  have H0 := Lib.hid h0
  have H1 := Lib.hid h1
  have H2 := Lib.hid h2
  have H3 := Lib.hid h3
  have HK := fun (w' : World) (h : Below w.heap.size w w') => valid_any (c := c0) (c' := c1) hn0 hn1 H0.out H1.out (hx0.below h) (hx1.below h)
  have HK2 := fun (w' : World) (h : Below w.heap.size w w') => valid_any (c := c2) (c' := c3) hn2 hn3 H2.out H3.out (hx2.below h) (hx3.below h)
  rw [hf] at HK
  rw [hg] at HK2
  have BS0 := Lib.hid (boxesF w (.slice D0 n0 c0) (.slice D1 n1 c1) (.slice D2 n2 c2) (.slice D3 n3 c3))
  clear hf hg h0 h1 h2 h3
  unfold fv at HK HK2 ⊢
  have HKH := Lib.hid HK
  have HKH2 := Lib.hid HK2
  clear HK HK2
  go_enter Try.func38, Try.ntmps38
  go_wp2_with fail
  refine (HKH.out _ BS0.out.below).mono ?_
  rintro e w1 ⟨rfl, hb1⟩
  have BS1 := Lib.hid (BS0.out.on hb1)
  obtain ⟨_, lb, kb⟩ := BS1.out.get (.tail _ (.head _))
  have qa : w1.cell? ⟨w.heap.size + 1, 0, none⟩ = some (.slice D2 n2 c2) := kb.cell 0
  have qb : w1.cell? ⟨w.heap.size + 1, 1, none⟩ = some (.slice D3 n3 c3) := kb.cell 1
  clear hb1 kb BS0
  go_wp2_with fail
  refine (HKH2.out _ BS1.out.below).mono ?_
  rintro e w2 ⟨rfl, hb1⟩
  clear qa qb lb
  obtain ⟨z, hz⟩ : ∃ z, z = w.heap.size + 1 + 1 := ⟨_, rfl⟩
  have bs2 := BS1.out.on hb1
  rw [← hz] at bs2 ⊢
  have hzw : w.heap.size ≤ z := by omega
  have BS2 := Lib.hid bs2
  obtain ⟨_, la2, ka⟩ := BS2.out.get (.tail _ (.tail _ (.head _)))
  obtain ⟨_, lb2, kb⟩ := BS2.out.get (.tail _ (.head _))
  have r0 : w2.cell? ⟨w.heap.size, 0, none⟩ = some (.slice D0 n0 c0) := ka.cell 0
  have r1 : w2.cell? ⟨w.heap.size, 1, none⟩ = some (.slice D1 n1 c1) := ka.cell 1
  have r2 : w2.cell? ⟨w.heap.size + 1, 0, none⟩ = some (.slice D2 n2 c2) := kb.cell 0
  have r3 : w2.cell? ⟨w.heap.size + 1, 1, none⟩ = some (.slice D3 n3 c3) := kb.cell 1
  clear hb1 ka kb bs2 hz BS1
  have HC0 : Hid (cmpI (xn * yd) (yn * xd) = -1) := Lib.hid (cmp_ltI HLT.out)
  go_wp2_with fail
  refine (compare_any (xn := xn) (xd := xd) (yn := yn) (yd := yd) hn0 hn1 hn2 hn3 H0.out H1.out H2.out H3.out (hx0.below BS2.out.below) (hx1.below BS2.out.below) (hx2.below BS2.out.below) (hx3.below BS2.out.below)).mono ?_
  rintro e w3 ⟨rfl, hb3⟩
  rw [HC0.out]
  have BS3 := Lib.hid (BS2.out.on hb3)
  clear r0 r1 r2 r3 la2 lb2 hb3
  obtain ⟨_, lz, kz⟩ := BS3.out.get (.head _)
  have s0 : w3.cell? ⟨z, 0, none⟩ = some (.slice none 0 0) := kz.cell 0
  have s1 : w3.cell? ⟨z, 1, none⟩ = some (.slice none 0 0) := kz.cell 1
  have f0 : w3.frozen? ⟨z, 0, none⟩ = false := kz.frozen 0
  have f1 : w3.frozen? ⟨z, 1, none⟩ = false := kz.frozen 1
  have HB7 := Lib.hid BS3.out.below
  clear kz
  go_wp2
  refine bodyPost_ret (v := .tuple #[fv none 0 0 none 0 0, .int .i64 2]) (by unfold fv; simp [results, Try.results38, go_sem, s0, s1]) rfl ?_
  refine ⟨rfl, ?_⟩
  repeat' (first | exact HB7.out | refine bl_alloc ?_ _ | refine bse ?_ (by assumption) _ _ | refine Below.drew ?_)
def fits_mul (xn xd yn yd : Nat) : Prop := L32 (xn * yn) ≤ 64 ∧ L32 (xd * yd) ≤ 64
set_option maxHeartbeats 4000000 in
set_option maxRecDepth 100000 in
theorem mul_ok {D0 D1 D2 D3 : Option Addr} {n0 n1 n2 n3 c0 c1 c2 c3 xn xd yn yd : Nat} {w : World} (hn0 : n0 ≤ 64) (hn1 : n1 ≤ 64) (hn2 : n2 ≤ 64) (hn3 : n3 ≤ 64) (h0 : n0 = L32 xn) (h1 : n1 = L32 xd) (h2 : n2 = L32 yn) (h3 : n3 = L32 yd)
    (hx0 : Cells w D0 n0 (Lm (d32 xn))) (hx1 : Cells w D1 n1 (Lm (d32 xd))) (hx2 : Cells w D2 n2 (Lm (d32 yn))) (hx3 : Cells w D3 n3 (Lm (d32 yd))) (hf : fok xn xd = true) (hg : fok yn yd = true) :
    Calls Try.prog 37 #[fv D0 n0 c0 D1 n1 c1, fv D2 n2 c2 D3 n3 c3] w fun e w' => Out w.heap.size w' e (fits_mul xn xd yn yd) (xn * yn / Nat.gcd (xn * yn) (xd * yd)) (xd * yd / Nat.gcd (xn * yn) (xd * yd)) ∧ Below w.heap.size w w' := by
  have HXD := Lib.hid (fok_pos hf)
  have HYD := Lib.hid (fok_pos hg)
  unfold fits_mul
  obtain ⟨p, hp⟩ : ∃ p, p = xn * yn := ⟨_, rfl⟩
  obtain ⟨q, hq⟩ : ∃ q, q = xd * yd := ⟨_, rfl⟩
  have HQ0 : Hid (0 < q) := by rw [hq]; exact Lib.hid (Nat.mul_pos HXD.out HYD.out)
  have HP := Lib.hid hp
  have HQ := Lib.hid hq
  rw [← hp, ← hq]
  clear hp hq
  have H0 := Lib.hid h0
  have H1 := Lib.hid h1
  have H2 := Lib.hid h2
  have H3 := Lib.hid h3
  have HK := fun (w' : World) (h : Below w.heap.size w w') => valid_any (c := c0) (c' := c1) hn0 hn1 H0.out H1.out (hx0.below h) (hx1.below h)
  have HK2 := fun (w' : World) (h : Below w.heap.size w w') => valid_any (c := c2) (c' := c3) hn2 hn3 H2.out H3.out (hx2.below h) (hx3.below h)
  rw [hf] at HK
  rw [hg] at HK2
  have BS0 := Lib.hid (boxesF w (.slice D0 n0 c0) (.slice D1 n1 c1) (.slice D2 n2 c2) (.slice D3 n3 c3))
  clear hf hg h0 h1 h2 h3
  unfold fv at HK HK2 ⊢
  have HKH := Lib.hid HK
  have HKH2 := Lib.hid HK2
  clear HK HK2
  go_enter Try.func37, Try.ntmps37
  go_wp2_with fail
  refine (HKH.out _ BS0.out.below).mono ?_
  rintro e w1 ⟨rfl, hb1⟩
  have BS1 := Lib.hid (BS0.out.on hb1)
  obtain ⟨_, lb, kb⟩ := BS1.out.get (.tail _ (.head _))
  have qa : w1.cell? ⟨w.heap.size + 1, 0, none⟩ = some (.slice D2 n2 c2) := kb.cell 0
  have qb : w1.cell? ⟨w.heap.size + 1, 1, none⟩ = some (.slice D3 n3 c3) := kb.cell 1
  clear hb1 kb BS0
  go_wp2_with fail
  refine (HKH2.out _ BS1.out.below).mono ?_
  rintro e w2 ⟨rfl, hb1⟩
  clear qa qb lb
  obtain ⟨z, hz⟩ : ∃ z, z = w.heap.size + 1 + 1 := ⟨_, rfl⟩
  have bs2 := BS1.out.on hb1
  rw [← hz] at bs2 ⊢
  have hzw : w.heap.size ≤ z := by omega
  have BS2 := Lib.hid bs2
  obtain ⟨_, la2, ka⟩ := BS2.out.get (.tail _ (.tail _ (.head _)))
  obtain ⟨_, lb2, kb⟩ := BS2.out.get (.tail _ (.head _))
  have r0 : w2.cell? ⟨w.heap.size, 0, none⟩ = some (.slice D0 n0 c0) := ka.cell 0
  have r1 : w2.cell? ⟨w.heap.size, 1, none⟩ = some (.slice D1 n1 c1) := ka.cell 1
  have r2 : w2.cell? ⟨w.heap.size + 1, 0, none⟩ = some (.slice D2 n2 c2) := kb.cell 0
  have r3 : w2.cell? ⟨w.heap.size + 1, 1, none⟩ = some (.slice D3 n3 c3) := kb.cell 1
  clear hb1 ka kb bs2 hz BS1
  go_wp2_with fail
  refine (products_any (x0 := xn) (x1 := yn) (x2 := xd) (x3 := yd) hn0 hn2 hn1 hn3 H0.out H2.out H1.out H3.out (hx0.below BS2.out.below) (hx2.below BS2.out.below) (hx1.below BS2.out.below) (hx3.below BS2.out.below)).mono ?_
  rintro e w3 ⟨hr, hb3⟩
  rw [← HP.out, ← HQ.out] at hr
  have BS3 := Lib.hid (BS2.out.on hb3)
  clear r0 r1 r2 r3 la2 lb2 hb3
  rcases hr with ⟨hp64, hq64, Dp, cp, Dq, cq, rfl, hlp, hlq, hcp, hcq, hfp, hfq⟩ | ⟨hpq, rfl⟩
  · obtain ⟨lp, hlp2⟩ : ∃ l, l = L32 p := ⟨_, rfl⟩
    obtain ⟨lq, hlq2⟩ : ∃ l, l = L32 q := ⟨_, rfl⟩
    rw [← hlp2] at hlp hcp hp64 ⊢
    rw [← hlq2] at hlq hcq hq64 ⊢
    have HLP := Lib.hid hlp2
    have HLQ := Lib.hid hlq2
    have bs4 := (BS3.out.alloc TN #[.slice Dp lp cp]).alloc TN #[.slice Dq lq cq]
    simp only [World.size_alloc] at bs4
    have BS4 := Lib.hid bs4
    have HCP := Lib.hid ((hcp.alloc (.cells #[.slice Dp lp cp] TN)).alloc (.cells #[.slice Dq lq cq] TN))
    have HCQ := Lib.hid ((hcq.alloc (.cells #[.slice Dp lp cp] TN)).alloc (.cells #[.slice Dq lq cq] TN))
    clear bs4 hlp2 hlq2 hcp hcq hfp hfq
    unfold natv
    go_wp2_with fail
    refine (make_any (x := p) (y := q) hp64 hq64 HLP.out HLQ.out HCP.out HCQ.out HQ0.out).mono ?_
    rintro e w5 ⟨⟨Da, ca, Db, cb, rfl, hla, hlb, hca, hcb, hfa, hfb⟩, hb5⟩
    have HFIT := Lib.hid (show L32 p ≤ 64 ∧ L32 q ≤ 64 by rw [← HLP.out, ← HLQ.out]; exact ⟨hp64, hq64⟩)
    have HZ6 := Lib.hid (BS4.out.get (.tail _ (.tail _ (.head _)))).2.1
    have HW6 := Lib.hid BS4.out.below.size
    have BS5 := Lib.hid (BS4.out.on hb5)
    clear hb5
    obtain ⟨_, lz, kz⟩ := BS5.out.get (.tail _ (.tail _ (.head _)))
    have s0 : w5.cell? ⟨z, 0, none⟩ = some (.slice none 0 0) := kz.cell 0
    have s1 : w5.cell? ⟨z, 1, none⟩ = some (.slice none 0 0) := kz.cell 1
    have f0 : w5.frozen? ⟨z, 0, none⟩ = false := kz.frozen 0
    have f1 : w5.frozen? ⟨z, 1, none⟩ = false := kz.frozen 1
    have HB7 := Lib.hid BS5.out.below
    clear kz
    obtain ⟨l1, hl1⟩ : ∃ l, l = L32 (p / Nat.gcd p q) := ⟨_, rfl⟩
    obtain ⟨l2, hl2⟩ : ∃ l, l = L32 (q / Nat.gcd p q) := ⟨_, rfl⟩
    rw [← hl1] at hla hca ⊢
    rw [← hl2] at hlb hcb ⊢
    have HL1 := Lib.hid hl1
    have HL2 := Lib.hid hl2
    have HCA := Lib.hid hca
    have HCB := Lib.hid hcb
    have HFA := Lib.hid hfa
    have HFB := Lib.hid hfb
    clear hl1 hl2 hca hcb hfa hfb
    unfold fv
    go_wp2
    refine bodyPost_ret (v := .tuple #[fv Da l1 ca Db l2 cb, .int .i64 0]) (by unfold fv; simp [results, Try.results37, go_sem, s0, s1]) rfl ?_
    refine ⟨.inl ⟨HFIT.out, Da, ca, Db, cb, by rw [← HL1.out, ← HL2.out], by rw [← HL1.out]; exact hla, by rw [← HL2.out]; exact hlb, ?_, ?_, HFA.out.mono HW6.out, HFB.out.mono HW6.out⟩, ?_⟩
    · rw [← HL1.out]
      exact (HCA.out.set_ HFA.out HZ6.out _ _).set_ HFA.out HZ6.out _ _
    · rw [← HL2.out]
      exact (HCB.out.set_ HFB.out HZ6.out _ _).set_ HFB.out HZ6.out _ _
    · repeat' (first | exact HB7.out | refine bl_alloc ?_ _ | refine bse ?_ (by assumption) _ _ | refine Below.drew ?_)
  · skip
    obtain ⟨_, lz, kz⟩ := BS3.out.get (.head _)
    have s0 : w3.cell? ⟨z, 0, none⟩ = some (.slice none 0 0) := kz.cell 0
    have s1 : w3.cell? ⟨z, 1, none⟩ = some (.slice none 0 0) := kz.cell 1
    have f0 : w3.frozen? ⟨z, 0, none⟩ = false := kz.frozen 0
    have f1 : w3.frozen? ⟨z, 1, none⟩ = false := kz.frozen 1
    have HB7 := Lib.hid BS3.out.below
    clear kz
    unfold natv
    go_wp2
    refine bodyPost_ret (v := .tuple #[fv none 0 0 none 0 0, .int .i64 9]) (by unfold fv; simp [results, Try.results37, go_sem, s0, s1, lz]) rfl ?_
    refine ⟨.inr ⟨fun h => by have := h.1; have := h.2; omega, rfl⟩, ?_⟩
    repeat' (first | exact HB7.out | refine bl_alloc ?_ _ | refine bse ?_ (by assumption) _ _ | refine Below.drew ?_)
def fits_div (xn xd yn yd : Nat) : Prop := L32 (xn * yd) ≤ 64 ∧ L32 (xd * yn) ≤ 64
end Fr
end Go.Proofs.Ytiflmnmkmpjecaa
