/- The walk of nat.DivMod. -/
import Derived.Test.YtdcmpnjhomhhiaaGreatNatCopy
import Derived.Test.YtdcmpnjhomhhiaaGreatNatLong3
import Derived.Test.YtdcmpnjhomhhiaaGreatG2
set_option linter.unusedVariables false
namespace Go.Proofs.YtdcmpnjhomhhiaaGreat
open Go.RowKit

/-- The boxes of two numbers and of two results. -/
structure Bq (w w' : World) (S T R1 R2 : Value) : Prop where
  below : Below w.heap.size w w'
  b0 : Blk w' w.heap.size 34 #[S]
  b1 : Blk w' (w.heap.size + 1) 34 #[T]
  b2 : Blk w' (w.heap.size + 1 + 1) 34 #[R1]
  b3 : Blk w' (w.heap.size + 1 + 1 + 1) 34 #[R2]
theorem Bq.new (w : World) (S T R1 R2 : Value) : Bq w ((((w.alloc (.cells #[S] 34)).alloc (.cells #[T] 34)).alloc (.cells #[R1] 34)).alloc (.cells #[R2] 34)) S T R1 R2 := by
  have h := Bo.new w S T R1
  refine ⟨h.below.alloc (by simp; omega) _, h.b0.alloc _, h.b1.alloc _, h.b2.alloc _, ?_⟩
  have := Blk.new (((w.alloc (.cells #[S] 34)).alloc (.cells #[T] 34)).alloc (.cells #[R1] 34)) 34 #[R2]
  rwa [World.size_alloc, World.size_alloc, World.size_alloc] at this
theorem Bq.on {w w' w'' : World} {S T R1 R2 : Value} (h : Bq w w' S T R1 R2) (k : Below w'.heap.size w' w'') : Bq w w'' S T R1 R2 :=
  ⟨Below.on h.below k, h.b0.keep k, h.b1.keep k, h.b2.keep k, h.b3.keep k⟩
theorem Bq.grown {w w' w'' : World} {S T R1 R2 : Value} (h : Bq w w' S T R1 R2) {g : Nat} (hg : w'.grownBy w'' (some g)) (hlt : w.heap.size + 1 + 1 + 1 < g) (hg2 : g < w'.heap.size) : Bq w w'' S T R1 R2 :=
  ⟨h.below.trans ((only_below hg (by omega)).mono (by omega)), h.b0.grown hg (by intro e; injection e; omega), h.b1.grown hg (by intro e; injection e; omega), h.b2.grown hg (by intro e; injection e; omega), h.b3.grown hg (by intro e; injection e; omega)⟩
theorem Bq.fresh {w w' w'' : World} {S T R1 R2 : Value} (h : Bq w w' S T R1 R2) (hg : w'.grownBy w'' none) : Bq w w'' S T R1 R2 :=
  h.on ⟨hg.os, hg.tape, hg.output, hg.size, fun k hk => hg.block k hk (by simp)⟩
theorem Bq.facts {w w' : World} {S T R1 R2 : Value} (h : Bq w w' S T R1 R2) : w'.cell? ⟨w.heap.size, 0, none⟩ = some S ∧ w'.cell? ⟨w.heap.size + 1, 0, none⟩ = some T ∧ w'.cell? ⟨w.heap.size + 1 + 1, 0, none⟩ = some R1 ∧ w'.cell? ⟨w.heap.size + 1 + 1 + 1, 0, none⟩ = some R2 ∧ w'.frozen? ⟨w.heap.size + 1 + 1, 0, none⟩ = false ∧ w'.frozen? ⟨w.heap.size + 1 + 1 + 1, 0, none⟩ = false ∧ w.heap.size + 1 + 1 + 1 < w'.heap.size :=
  ⟨h.b0.cell 0, h.b1.cell 0, h.b2.cell 0, h.b3.cell 0, h.b2.frozen 0, h.b3.frozen 0, h.b3.lt⟩

theorem Fresh.at_ {B g : Nat} (h : B ≤ g) : Fresh B (some ⟨g, 0, none⟩) := fun a ha => by injection ha with ha; subst ha; exact h
theorem quo_fit {x y n m : Nat} (hmn : m ≤ n) (hm : 0 < m) (hn : n = L32 x) (hmy : m = L32 y) : Fit32 (x / y) (n - m + 1) := by
  have hb := len_big hm hmy
  have hf : Fit32 x n := by rw [hn]; exact fit32_len x
  show x / y < 4294967296 ^ (n - m + 1)
  refine (Nat.div_lt_iff_lt_mul (Nat.lt_of_lt_of_le (Nat.pow_pos (by omega)) hb)).2 ?_
  refine Nat.lt_of_lt_of_le hf (Nat.le_trans (Nat.le_of_eq ?_) (Nat.mul_le_mul_left _ hb))
  rw [← Nat.pow_add]
  congr 1
  omega
theorem own_some {w : World} {base : Nat} {e : TypeId} {size : Nat} {v : Value} {n : Nat} {xs : List Value} (h : w.ownsRow base e size v n xs) (hn : 0 < n) : ∃ g c, v = .slice (some ⟨g, 0, none⟩) n c := by
  rcases h.2 with ⟨rfl, rfl⟩ | ⟨g, cap, cur, rfl, _, _, hc, _⟩
  · omega
  · exact ⟨_, _, rfl⟩
theorem rem_fit {x y m : Nat} (hy : 0 < y) (hmy : m = L32 y) : Fit32 (x % y) m := by
  have : Fit32 y m := by rw [hmy]; exact fit32_len y
  exact Nat.lt_trans (Nat.mod_lt x hy) this
def DivRes (B : Nat) (w' : World) (e : Ending) (q r : Nat) : Prop :=
  ∃ Dq cq Dr cr, e = .returned (.tuple #[natv Dq (L32 q) cq, natv Dr (L32 r) cr, .int .i64 0]) ∧ L32 q ≤ cq ∧ L32 r ≤ cr ∧ Cells w' Dq (L32 q) (Lm (d32 q)) ∧ Cells w' Dr (L32 r) (Lm (d32 r)) ∧ Fresh B Dq ∧ Fresh B Dr

set_option maxHeartbeats 400000 in
theorem of_new (N : Nat) (hN : N < 18446744073709551616) (w : World) :
    Calls Tryz.prog 12 #[.int .u64 (N : Int)] w fun e w' => ∃ D c, e = .returned (.agg #[.slice D (L32 N) c]) ∧ L32 N ≤ c ∧ Cells w' D (L32 N) (Lm (d32 N)) ∧ Fresh w.heap.size D ∧ Below w.heap.size w w' := by
  have hf := Lib.hid (fit_two hN)
  obtain ⟨e0, e1⟩ := two_digits hN
  have E0 := Lib.hid e0
  have E1 := Lib.hid e1
  clear e0 e1
  go_enter Tryz.func12, Tryz.ntmps12
  have hb0 := (Below.refl w.heap.size w).alloc (Nat.le_refl _) (.cells #[.slice none 0 0] 34)
  have hk0 := Blk.new w 34 #[.slice none 0 0]
  have HB0 := Lib.hid (hb0.alloc hb0.size (.cells #[.int .u32 ((N : Int) % 4294967296), .int .u32 ((N : Int) / 4294967296)] 65))
  have HK0 := Lib.hid (hk0.alloc (.cells #[.int .u32 ((N : Int) % 4294967296), .int .u32 ((N : Int) / 4294967296)] 65))
  have HC0 := Lib.hid (Cells.lit (w := w.alloc (.cells #[.slice none 0 0] 34)) (cs := #[.int .u32 ((N : Int) % 4294967296), .int .u32 ((N : Int) / 4294967296)]) (t := 65) (g := w.heap.size + 1) (m := 2) (G := Lm (d32 N)) (by simp) fun j hj => by
    match j, hj with
    | 0, _ => unfold Lm; rw [E0.out, Int.natCast_emod]; rfl
    | 1, _ => unfold Lm; rw [E1.out, Int.natCast_ediv]; rfl)
  clear hb0 hk0
  go_wp2_with fail
  refine (trimmed_any (by omega) (by omega) hf.out HC0.out).mono ?_
  rintro e w1 ⟨D, c, rfl, hlc, hc, hb1, hD⟩
  have HB1 := Lib.hid (HB0.out.trans (hb1.mono HB0.out.size))
  have HK1 := Lib.hid (HK0.out.keep hb1)
  have q0 := HK1.out.cell 0
  have f0 := HK1.out.frozen 0
  have hlt := HK1.out.lt
  have q0 : w1.cell? ⟨w.heap.size, 0, none⟩ = some (.slice none 0 0) := q0
  have HC := Lib.hid hc
  have HD : Hid (Fresh (w.heap.size + 1) D) := Fresh.same (D := some ⟨w.heap.size + 1, 0, none⟩) (fun a ha => by injection ha with ha; subst ha; exact Nat.le_refl _) hD
  unfold natv
  obtain ⟨l, hl⟩ : ∃ l, l = L32 N := ⟨_, rfl⟩
  rw [← hl] at hlc HC ⊢
  have HL := Lib.hid hl
  clear hb1 hc HB0 HK0 HC0 hl hD
  go_wp2
  refine bodyPost_ret (v := .agg #[.slice D l c]) (by simp [results, Tryz.results12, go_sem, q0]) rfl ?_
  rw [← HL.out]
  exact ⟨D, c, rfl, hlc, HC.out.set_ HD.out (Nat.lt_succ_self _) _ _, HD.out.mono (by omega), HB1.out.setCell (p := ⟨w.heap.size, 0, none⟩) (Nat.le_refl _) _⟩

set_option maxHeartbeats 2000000 in
set_option maxRecDepth 100000 in
theorem divmod_any {D E : Option Addr} {n m c c' x y : Nat} {w : World} (hn : n ≤ 64) (hm : m ≤ 64) (hnx : n = L32 x) (hmy : m = L32 y) (hx : Cells w D n (Lm (d32 x))) (hy : Cells w E m (Lm (d32 y))) (hy0 : 0 < y) :
    Calls Tryz.prog 54 #[natv D n c, natv E m c'] w fun e w' => DivRes w.heap.size w' e (x / y) (x % y) ∧ Below w.heap.size w w' := by
  obtain ⟨i0, hi, hz0, hz1, hz2⟩ := info_parts Tryz.infoU
  have hvx := Lib.hid (vd_true hn hnx)
  have hvy := Lib.hid (vd_true hm hmy)
  have HX := Lib.hid hnx
  have HY := Lib.hid hmy
  have hm0 : 0 < m := by
    rcases Nat.eq_zero_or_pos m with h | h
    · rw [h] at hmy; have := L32_zero.1 hmy.symm; omega
    · exact h
  have HY0 := Lib.hid hy0
  clear hnx hmy hy0
  have hm0i : ((m : Nat) : Int) ≠ 0 := by omega
  unfold natv
  have BO0 := Lib.hid (Bq.new w (.slice D n c) (.slice E m c') (.slice none 0 0) (.slice none 0 0))
  go_enter Tryz.func54, Tryz.ntmps54
  go_wp2_with fail
  refine (nvalid_is (by omega) (hx.below BO0.out.below) hvx.out).mono ?_
  rintro e w1 ⟨rfl, hb1⟩
  have BO1 := Lib.hid (BO0.out.on hb1)
  obtain ⟨q0, q1, q2, q3, f2, f3, hlt⟩ := BO1.out.facts
  clear hb1 BO0
  go_wp2_with fail
  refine (nvalid_is (by omega) (hy.below BO1.out.below) hvy.out).mono ?_
  rintro e w2 ⟨rfl, hb1⟩
  clear q0 q1 q2 q3 f2 f3 hlt
  have BO2 := Lib.hid (BO1.out.on hb1)
  obtain ⟨q0, q1, q2, q3, f2, f3, hlt⟩ := BO2.out.facts
  clear hb1 BO1
  go_wp2_with fail
  refine (compare_any (by omega) (by omega) HX.out HY.out (hx.below BO2.out.below) (hy.below BO2.out.below)).mono ?_
  rintro e w3 ⟨rfl, hb1⟩
  clear q0 q1 q2 q3 f2 f3 hlt
  have BO3 := Lib.hid (BO2.out.on hb1)
  obtain ⟨q0, q1, q2, q3, f2, f3, hlt⟩ := BO3.out.facts
  clear hb1 BO2
  rcases Nat.lt_or_ge x y with hxy | hxy
  · have hcmp : cmpI x y = -1 := by unfold cmpI; rw [if_pos hxy]
    rw [hcmp]
    have HQ := Lib.hid (Nat.div_eq_of_lt hxy)
    have HM := Lib.hid (Nat.mod_eq_of_lt hxy)
    clear hcmp hxy
    go_wp2_with fail
    refine (copied_any hn HX.out (hx.below BO3.out.below)).mono ?_
    rintro e w4 ⟨Dr, cr, rfl, hlc, hcc, hfr, hb1⟩
    clear q0 q1 q2 q3 f2 f3 hlt
    have BO4 := Lib.hid (BO3.out.on hb1)
    obtain ⟨q0, q1, q2, q3, f2, f3, hlt⟩ := BO4.out.facts
    have HFR := Lib.hid (hfr.mono (Nat.succ_le_of_lt BO3.out.b3.lt))
    have HCC := Lib.hid hcc
    unfold natv
    obtain ⟨l, hl⟩ : ∃ l, l = L32 x := ⟨_, rfl⟩
    rw [← hl] at hlc HCC ⊢
    have HL := Lib.hid hl
    clear hb1 hcc hl hfr
    go_wp2
    refine bodyPost_ret (v := .tuple #[natv none 0 0, natv Dr l cr, .int .i64 0]) (by unfold natv; simp [results, Tryz.results54, go_sem, q2, q3]) rfl ?_
    rw [HQ.out, HM.out]
    have hb8 := (BO4.out.below.setCell (p := ⟨w.heap.size + 1 + 1, 0, none⟩) (by simp; omega) (.slice none 0 0)).setCell (p := ⟨w.heap.size + 1 + 1 + 1, 0, none⟩) (by simp; omega) (.slice Dr l cr)
    have h0 : L32 0 = 0 := L32_zero.2 rfl
    refine ⟨⟨none, 0, Dr, cr, by rw [h0, ← HL.out], by rw [h0]; exact Nat.zero_le _, by rw [← HL.out]; exact hlc, by rw [h0]; exact Cells.nil, ?_, fresh_none, HFR.out.mono (by omega)⟩, hb8⟩
    rw [← HL.out]
    exact (HCC.out.set_ HFR.out (by omega) _ _).set_ HFR.out (by omega) _ _
  · have hcmp : 0 ≤ cmpI x y := by unfold cmpI; rw [if_neg (by omega)]; split <;> omega
    by_cases hm1 : m = 1
    · subst hm1
      have hmn : 1 ≤ n := by
        have h1 := Nt.len_mono (b := 4294967296) (by omega) hxy
        have h2 := HX.out
        have h3 := HY.out
        have h4 : L32 y ≤ L32 x := h1
        omega
      have hy1 : Fit32 y 1 := by rw [HY.out]; exact fit32_len y
      have hyl : y < 4294967296 := by have h := hy1; unfold Fit32 at h; rwa [Nat.pow_one] at h
      have hyd : d32 y 0 = y := by rw [(two_digits (N := y) (by omega)).1]; exact Nat.mod_eq_of_lt hyl
      obtain ⟨b1, o1, rfl, hlt1, hc1⟩ := (hx.below BO3.out.below).lm (show 0 < n by omega)
      obtain ⟨b2, o2, rfl, hlt2, hc2⟩ := (hy.below BO3.out.below).lm (show 0 < 1 by omega)
      rw [hyd] at hc2
      have HYL := Lib.hid hyl
      have HC1 := Lib.hid (hx.below BO3.out.below)
      have HC2 := Lib.hid (hy.below BO3.out.below)
      have HYD := Lib.hid hyd
      generalize hcd : cmpI x y = cd at *
      clear hcd hxy hc1 hyl hyd hy1
      go_wp2_with (at_builtin; refine wpList_append_own _ rfl _ _ 32 rfl (w.heap.size + 1 + 1 + 1 + 1) 65 i0 (.int .u32 0) 1 4 Tryz.underlying32 hi hz0 hz1 hz2 rfl (by decide) (.slice none 0 0) 0 [] rfl (World.ownsRow_nil _ _ _ _) ⟨b1, o1, none⟩ n c (row n (Lm (d32 x))) rfl ?c0 ?c1 ?c2 ?c3 ?c4 ?c5 ?_)
      case c0 => rw [row_length, Nat.mul_one]
      case c1 =>
        intro j u hj
        have hjn : j < n := by
          rcases Nat.lt_or_ge j n with h | h
          · exact h
          · rw [List.getElem?_eq_none (by rw [row_length]; exact h)] at hj; cases hj
        rw [row_get hjn] at hj
        injection hj with hj
        rw [← hj]
        exact HC1.out.at_add hjn
      case c2 =>
        intro u hu
        unfold row at hu
        obtain ⟨j, _, rfl⟩ := List.mem_map.1 hu
        rfl
      case c3 => unfold maxLen; omega
      case c4 => omega
      case c5 => omega
      intro v' w4 hown' hgrow _
      have HO : Hid (w4.ownsRow (w.heap.size + 1 + 1 + 1 + 1) 65 1 v' n (row (n * 1) (Lm (d32 x)))) := by
        rw [Nat.mul_one]
        try simp only [Nat.zero_add, List.nil_append] at hown'
        exact hown'
      have BO4 := Lib.hid (BO3.out.fresh hgrow)
      have hb4 : Below w3.heap.size w3 w4 := ⟨hgrow.os, hgrow.tape, hgrow.output, hgrow.size, fun k hk => hgrow.block k hk (by intro e; cases e)⟩
      have HC4 := Lib.hid (HC2.out.below hb4)
      clear hown' hgrow q0 q1 q2 q3 f2 f3 hc2 hlt1 hlt2 hb4
      obtain ⟨g, cap, rfl⟩ := own_some HO.out (show 0 < n by omega)
      obtain ⟨F', hA, hcap, hbg, hF⟩ := Arr.of_own HO.out
      obtain ⟨q0, q1, q2, q3, f2, f3, hlt4⟩ := BO4.out.facts
      obtain ⟨b3, o3, e3, hlt2, hc2⟩ := HC4.out.lm (show 0 < 1 by omega)
      injection e3 with e3
      injection e3 with e4 e5
      subst e4 e5
      rw [HYD.out] at hc2
      try rw [Nat.add_zero] at hc2
      go_wp2_with fail
      refine (dsmall_any (N := x) (d := y) (by omega) (by omega) hcap HY0.out HYL.out (by rw [HX.out]; exact fit32_len x) hA hF).mono ?_
      rintro e w5 ⟨rfl, hA5, hg5⟩
      have HQF := Lib.hid (show Fit32 (x / y) n by
        have : Fit32 x n := by rw [HX.out]; exact fit32_len x
        exact Nat.lt_of_le_of_lt (Nat.div_le_self x y) this)
      obtain ⟨r, hr⟩ : ∃ r, r = x % y := ⟨_, rfl⟩
      obtain ⟨q, hq⟩ : ∃ q, q = x / y := ⟨_, rfl⟩
      have hry : r < y := by rw [hr]; exact Nat.mod_lt x HY0.out
      have hrl : r < 4294967296 := by have := HYL.out; omega
      rw [← hq] at HQF
      have HQC : Hid (Cells w5 (some ⟨g, 0, none⟩) n (Lm (d32 q))) := (hA5.cells (o := 0) (n := n) (by omega)).congr fun j hj => by
        rw [Nat.zero_add]
        unfold dcell Lm
        rw [if_neg (by omega), if_pos hj, ← hq]
      rw [← hr]
      have HQE := Lib.hid hq
      have HRE := Lib.hid hr
      have k1 : IntKind.u64.wrap (r : Int) = (r : Int) := IntWalk.u64_in _ (by omega)
      have hgl := hA.lt
      clear hry hr hq
      clear q0 q1 q2 q3 f2 f3
      have BO5 := Lib.hid (BO4.out.grown hg5 (by omega) hgl)
      obtain ⟨q0, q1, q2, q3, f2, f3, hlt5⟩ := BO5.out.facts
      clear hc2 hA hF hA5 hg5 HO hgl
      go_wp2_with fail
      refine (trimmed_any (m := n) (N := q) (by omega) hcap HQF.out HQC.out).mono ?_
      rintro e w6 ⟨Dq, cq2, rfl, hlq, hcc, hb1, hDq⟩
      clear q0 q1 q2 q3 f2 f3
      have BO6 := Lib.hid (BO5.out.on hb1)
      obtain ⟨q0, q1, q2, q3, f2, f3, hlt6⟩ := BO6.out.facts
      have HFQ : Hid (Fresh (w.heap.size + 1 + 1 + 1 + 1) Dq) := (Fresh.at_ (g := g) hbg).same hDq
      have HCQ2 := Lib.hid hcc
      have HLQ := Lib.hid hlq
      clear hb1 hcc hDq hlq HQC
      go_wp2_with fail
      refine (of_new r (by omega) _).mono ?_
      rintro e w7 ⟨Dr, cr2, rfl, hlr, hcc, hfr, hb1⟩
      clear q0 q1 q2 q3 f2 f3
      have BO7 := Lib.hid (BO6.out.on hb1)
      obtain ⟨q0, q1, q2, q3, f2, f3, hlt7⟩ := BO7.out.facts
      have HFR := Lib.hid (hfr.mono (Nat.succ_le_of_lt hlt6))
      have HCR3 := Lib.hid hcc
      have HCQ3 := Lib.hid (HCQ2.out.below hb1)
      have HLR := Lib.hid hlr
      clear hb1 hcc hfr hlr HCQ2
      unfold natv
      obtain ⟨l, hl⟩ : ∃ l, l = L32 q := ⟨_, rfl⟩
      obtain ⟨l2, hl2⟩ : ∃ l2, l2 = L32 r := ⟨_, rfl⟩
      rw [← hl] at HLQ HCQ3 ⊢
      rw [← hl2] at HLR HCR3 ⊢
      have HL := Lib.hid hl
      have HL2 := Lib.hid hl2
      clear hl hl2
      go_wp2
      refine bodyPost_ret (v := .tuple #[natv Dq l cq2, natv Dr l2 cr2, .int .i64 0]) (by unfold natv; simp [results, Tryz.results54, go_sem, q2, q3]) rfl ?_
      have hb8 := (BO7.out.below.setCell (p := ⟨w.heap.size + 1 + 1, 0, none⟩) (by simp; omega) (.slice Dq l cq2)).setCell (p := ⟨w.heap.size + 1 + 1 + 1, 0, none⟩) (by simp; omega) (.slice Dr l2 cr2)
      rw [← HQE.out, ← HRE.out]
      refine ⟨⟨Dq, cq2, Dr, cr2, by rw [← HL.out, ← HL2.out], by rw [← HL.out]; exact HLQ.out, by rw [← HL2.out]; exact HLR.out, ?_, ?_, HFQ.out.mono (by omega), HFR.out.mono (by omega)⟩, hb8⟩
      · rw [← HL.out]
        exact (HCQ3.out.set_ HFQ.out (by omega) _ _).set_ HFQ.out (by omega) _ _
      · rw [← HL2.out]
        exact (HCR3.out.set_ HFR.out (by omega) _ _).set_ HFR.out (by omega) _ _
    · have hm1i : ¬ ((m : Nat) : Int) = 1 := by omega
      have hmn : m ≤ n := by rw [HX.out, HY.out]; exact Nt.len_mono (by omega) hxy
      generalize hcd : cmpI x y = cd at *
      clear hcd hxy
      have HD := Lib.hid (fun (wy : World) (h1 : Cells wy D n (Lm (d32 x))) (h2 : Cells wy E m (Lm (d32 y))) => dlong_any (c := c) (c' := c') (w := wy) (show 2 ≤ m by omega) hmn hn HX.out HY.out h1 h2)
      go_wp2_with fail
      refine (HD.out _ (hx.below BO3.out.below) (hy.below BO3.out.below)).mono ?_
      rintro e w4 ⟨gq, gr, cq, rfl, hcq, hq, hr, hgq, hgr, hb1⟩
      clear q0 q1 q2 q3 f2 f3
      have BO4 := Lib.hid (BO3.out.on hb1)
      obtain ⟨q0, q1, q2, q3, f2, f3, hlt4⟩ := BO4.out.facts
      have HCQ := Lib.hid hq
      have HCR := Lib.hid hr
      clear hb1 hq hr HD
      go_wp2_with fail
      refine (trimmed_any (m := n - m + 1) (N := x / y) (by omega) hcq (quo_fit hmn hm0 HX.out HY.out) HCQ.out).mono ?_
      rintro e w5 ⟨Dq, cq2, rfl, hlq, hcc, hb1, hDq⟩
      clear q0 q1 q2 q3 f2 f3
      have BO5 := Lib.hid (BO4.out.on hb1)
      obtain ⟨q0, q1, q2, q3, f2, f3, hlt5⟩ := BO5.out.facts
      have HFQ : Hid (Fresh (w.heap.size + 1 + 1 + 1 + 1) Dq) := (Fresh.at_ (g := gq) (Nat.le_trans hlt hgq)).same hDq
      have HCQ2 := Lib.hid hcc
      have HCR2 := Lib.hid (HCR.out.below hb1)
      have HLQ := Lib.hid hlq
      have HCAP := Lib.hid hcq
      clear hb1 hcc hDq hlq hcq HCQ HCR
      go_wp2_with fail
      refine (trimmed_any (m := m) (N := x % y) (by omega) (Nat.le_refl m) (rem_fit HY0.out HY.out) HCR2.out).mono ?_
      rintro e w6 ⟨Dr, cr2, rfl, hlr, hcc, hb1, hDr⟩
      clear q0 q1 q2 q3 f2 f3
      have BO6 := Lib.hid (BO5.out.on hb1)
      obtain ⟨q0, q1, q2, q3, f2, f3, hlt6⟩ := BO6.out.facts
      have HFR : Hid (Fresh (w.heap.size + 1 + 1 + 1 + 1) Dr) := (Fresh.at_ (g := gr) (Nat.le_trans hlt hgr)).same hDr
      have HCR3 := Lib.hid hcc
      have HCQ3 := Lib.hid (HCQ2.out.below hb1)
      have HLR := Lib.hid hlr
      clear hb1 hcc hDr hlr HCR2 HCQ2
      unfold natv
      obtain ⟨l, hl⟩ : ∃ l, l = L32 (x / y) := ⟨_, rfl⟩
      obtain ⟨l2, hl2⟩ : ∃ l2, l2 = L32 (x % y) := ⟨_, rfl⟩
      rw [← hl] at HLQ HCQ3 ⊢
      rw [← hl2] at HLR HCR3 ⊢
      have HL := Lib.hid hl
      have HL2 := Lib.hid hl2
      clear hl hl2
      go_wp2
      refine bodyPost_ret (v := .tuple #[natv Dq l cq2, natv Dr l2 cr2, .int .i64 0]) (by unfold natv; simp [results, Tryz.results54, go_sem, q2, q3]) rfl ?_
      have hb8 := (BO6.out.below.setCell (p := ⟨w.heap.size + 1 + 1, 0, none⟩) (by simp; omega) (.slice Dq l cq2)).setCell (p := ⟨w.heap.size + 1 + 1 + 1, 0, none⟩) (by simp; omega) (.slice Dr l2 cr2)
      refine ⟨⟨Dq, cq2, Dr, cr2, by rw [← HL.out, ← HL2.out], by rw [← HL.out]; exact HLQ.out, by rw [← HL2.out]; exact HLR.out, ?_, ?_, HFQ.out.mono (by omega), HFR.out.mono (by omega)⟩, hb8⟩
      · rw [← HL.out]
        exact (HCQ3.out.set_ HFQ.out (by omega) _ _).set_ HFQ.out (by omega) _ _
      · rw [← HL2.out]
        exact (HCR3.out.set_ HFR.out (by omega) _ _).set_ HFR.out (by omega) _ _
end Go.Proofs.YtdcmpnjhomhhiaaGreat
