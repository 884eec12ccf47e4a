/- Several texts in one. -/
import Derived.Test.YtiflmnmkmpjecaaNatGcd
import Derived.Test.YtiflmnmkmpjecaaG10
import Derived.Test.YtiflmnmkmpjecaaNatDivBad
import Derived.Test.YtiflmnmkmpjecaaBox
import Derived.Deep.RegionHeld3
import Derived.Deep.RegionLaw
/- Words for the walks of frac: a list of blocks of one's own that stay as they are; a fraction's value. -/
set_option linter.unusedVariables false
namespace Go.Proofs.Ytiflmnmkmpjecaa
open Go.RowKit
namespace Fr
/-- A fraction by value. -/
def fv (D : Option Addr) (n c : Nat) (E : Option Addr) (m c' : Nat) : Value := .agg #[.slice D n c, .slice E m c']
/-- Blocks of the call's own, and that all below stays. -/
structure Bs (w0 w : World) (l : List (Nat × TypeId × Array Value)) : Prop where
  below : Below w0.heap.size w0 w
  blk : ∀ b t cs, (b, t, cs) ∈ l → w0.heap.size ≤ b ∧ Blk w b t cs
section
variable {w0 w w' : World} {l : List (Nat × TypeId × Array Value)}
theorem Bs.nil (w : World) : Bs w w [] := ⟨Below.refl _ _, fun _ _ _ h => by cases h⟩
theorem Bs.on (h : Bs w0 w l) (k : Below w.heap.size w w') : Bs w0 w' l := ⟨Below.on h.below k, fun b t cs hb => ⟨(h.blk b t cs hb).1, (h.blk b t cs hb).2.keep k⟩⟩
theorem Bs.drew (h : Bs w0 w l) : Bs w0 w.drew l := h.on (Below.refl _ _).drew
theorem Bs.alloc (h : Bs w0 w l) (t : TypeId) (cs : Array Value) : Bs w0 (w.alloc (.cells cs t)) ((w.heap.size, t, cs) :: l) := by
  refine ⟨h.below.alloc h.below.size _, fun b t' cs' hb => ?_⟩
  rcases List.mem_cons.1 hb with e | hb
  · injection e with e1 e2
    injection e2 with e2 e3
    subst e1 e2 e3
    exact ⟨h.below.size, Blk.new w _ _⟩
  · exact ⟨(h.blk b t' cs' hb).1, (h.blk b t' cs' hb).2.alloc _⟩
theorem Bs.sub {l' : List (Nat × TypeId × Array Value)} (h : Bs w0 w l) (hs : ∀ x, x ∈ l' → x ∈ l) : Bs w0 w l' := ⟨h.below, fun b t cs hb => h.blk b t cs (hs _ hb)⟩
theorem Bs.get (h : Bs w0 w l) {b : Nat} {t : TypeId} {cs : Array Value} (hm : (b, t, cs) ∈ l) : w0.heap.size ≤ b ∧ b < w.heap.size ∧ Blk w b t cs := ⟨(h.blk _ _ _ hm).1, (h.blk _ _ _ hm).2.lt, (h.blk _ _ _ hm).2⟩
/-- A store into the first block. -/
theorem Bs.put {b : Nat} {t : TypeId} {cs : Array Value} (h : Bs w0 w ((b, t, cs) :: l)) (hne : ∀ b' t' cs', (b', t', cs') ∈ l → b' ≠ b) (i : Nat) (u : Value) : Bs w0 (w.setCell ⟨b, i, none⟩ u) ((b, t, cs.setIfInBounds i u) :: l) := by
  have h0 := h.blk b t cs (List.mem_cons_self ..)
  refine ⟨h.below.setCell (p := ⟨b, i, none⟩) h0.1 u, fun b' t' cs' hb => ?_⟩
  rcases List.mem_cons.1 hb with e | hb
  · injection e with e1 e2
    injection e2 with e2 e3
    subst e1 e2 e3
    exact ⟨h0.1, h0.2.set_ i u⟩
  · have h1 := h.blk b' t' cs' (List.mem_cons_of_mem _ hb)
    exact ⟨h1.1, h1.2.other (hne b' t' cs' hb) u⟩
end
/-- The result of a call that makes a fraction. -/
def Res (B : Nat) (w' : World) (e : Ending) (a b : Nat) : Prop :=
  ∃ D c E c', e = .returned (.tuple #[fv D (L32 a) c E (L32 b) c', .int .i64 0]) ∧ L32 a ≤ c ∧ L32 b ≤ c' ∧ Cells w' D (L32 a) (Lm (d32 a)) ∧ Cells w' E (L32 b) (Lm (d32 b)) ∧ Fresh B D ∧ Fresh B E
/-- A call that refuses. -/
def Err (e : Ending) (y : Nat) : Prop := e = .returned (.tuple #[fv none 0 0 none 0 0, .int .i64 (y : Int)])
theorem len_div {x g : Nat} (hx : L32 x ≤ 64) : L32 (x / g) ≤ 64 := Nat.le_trans (Nt.len_mono (by omega) (Nat.div_le_self x g)) hx
end Fr
end Go.Proofs.Ytiflmnmkmpjecaa

/- The walk of frac.Make. -/
set_option linter.unusedVariables false
namespace Go.Proofs.Ytiflmnmkmpjecaa
open Go.RowKit
namespace Fr
theorem boxes (w : World) (S T : Value) : Bs w (((w.alloc (.cells #[S] 32)).alloc (.cells #[T] 32)).alloc (.cells #[.slice none 0 0, .slice none 0 0] 34))
    [(w.heap.size + 1 + 1, 34, #[.slice none 0 0, .slice none 0 0]), (w.heap.size + 1, 32, #[T]), (w.heap.size, 32, #[S])] := by
  have := (((Bs.nil w).alloc 32 #[S]).alloc 32 #[T]).alloc 34 #[.slice none 0 0, .slice none 0 0]
  simp only [World.size_alloc] at this
  exact this
theorem ends2 {w w5 : World} {z : Nat} (h : Below w.heap.size w w5) (hz : w.heap.size ≤ z) (a b : Value) (o o2 : Go.Obj) : Below w.heap.size w ((((w5.setCell ⟨z, 0, none⟩ a).setCell ⟨z, 1, none⟩ b).alloc o).alloc o2) :=
  bl_alloc (bl_alloc ((h.setCell (p := ⟨z, 0, none⟩) hz a).setCell (p := ⟨z, 1, none⟩) hz b) _) _
set_option maxHeartbeats 4000000 in
set_option maxRecDepth 100000 in
theorem make_any {D E : Option Addr} {n m c c' x y : Nat} {w : World} (hn : n ≤ 64) (hm : m ≤ 64) (hnx : n = L32 x) (hmy : m = L32 y) (hx : Cells w D n (Lm (d32 x))) (hy : Cells w E m (Lm (d32 y))) (hy0 : 0 < y) :
    Calls Try.prog 57 #[natv D n c, natv E m c'] w fun e w' => Res w.heap.size w' e (x / Nat.gcd x y) (y / Nat.gcd x y) ∧ Below w.heap.size w w' := by
  have hvx := Lib.hid (vd_true hn hnx)
  have hvy := Lib.hid (vd_true hm hmy)
  have hm0 : 0 < m := by
    rcases Nat.eq_zero_or_pos m with h | h
    · have h0 : y = 0 := L32_zero.1 (hmy.symm.trans h)
      omega
    · exact h
  have hmz : ((m : Int) == 0) = false := by simp; omega
  have HX := Lib.hid hnx
  have HY := Lib.hid hmy
  obtain ⟨g, hg⟩ : ∃ g, g = Nat.gcd x y := ⟨_, rfl⟩
  obtain ⟨lg, hlg2⟩ : ∃ l, l = L32 g := ⟨_, rfl⟩
  have HG64 : Hid (lg ≤ 64) := by rw [hlg2, hg]; exact Lib.hid (gcd_len (x := x) (y := y) (by omega) (by omega))
  have HG0 : Hid (0 < g) := by rw [hg]; exact Lib.hid (Nat.gcd_pos_of_pos_right x hy0)
  have HGG := Lib.hid hg
  have HLG := Lib.hid hlg2
  clear hg hlg2
  clear hnx hmy
  have BS0 := Lib.hid (boxes w (.slice D n c) (.slice E m c'))
  unfold natv
  go_enter Try.func57, Try.ntmps57
  go_wp2_with fail
  refine (nvalid_is (by omega) (hx.below BS0.out.below) hvx.out).mono ?_
  rintro e w1 ⟨rfl, hb1⟩
  have BS1 := Lib.hid (BS0.out.on hb1)
  clear hb1 BS0
  have q1 : w1.cell? ⟨w.heap.size + 1, 0, none⟩ = some (.slice E m c') := (BS1.out.get (.tail _ (.head _))).2.2.cell 0
  go_wp2_with fail
  refine (nvalid_is (by omega) (hy.below BS1.out.below) hvy.out).mono ?_
  rintro e w2 ⟨rfl, hb1⟩
  have BS2 := Lib.hid (BS1.out.on hb1)
  clear hb1 BS1 q1
  have q0 : w2.cell? ⟨w.heap.size, 0, none⟩ = some (.slice D n c) := (BS2.out.get (.tail _ (.tail _ (.head _)))).2.2.cell 0
  have q1 : w2.cell? ⟨w.heap.size + 1, 0, none⟩ = some (.slice E m c') := (BS2.out.get (.tail _ (.head _))).2.2.cell 0
  go_wp2_with fail
  refine (gcd_any (x := x) (y := y) hn hm HX.out HY.out (hx.below BS2.out.below) (hy.below BS2.out.below)).mono ?_
  rintro e w3 ⟨Dg, cg, rfl, hlg, hcg, hfg, hb3⟩
  rw [← HGG.out, ← HLG.out] at hlg hcg ⊢
  have bs3 := BS2.out.on hb3
  obtain ⟨z, hz⟩ : ∃ z, z = w.heap.size + 1 + 1 := ⟨_, rfl⟩
  rw [← hz] at bs3 ⊢
  have hzw : w.heap.size ≤ z := by omega
  have BS3 := Lib.hid bs3
  clear bs3 hz
  have HCG := Lib.hid hcg
  have HLC := Lib.hid hlg
  have HFG := Lib.hid hfg
  clear hcg hlg hfg hb3 BS2 q0 q1
  have q0 : w3.cell? ⟨w.heap.size, 0, none⟩ = some (.slice D n c) := (BS3.out.get (.tail _ (.tail _ (.head _)))).2.2.cell 0
  unfold natv
  have h46 := (BS3.out.get (.tail _ (.tail _ (.head _)))).2.1
  have BS4 := Lib.hid (BS3.out.alloc 32 #[.slice Dg lg cg])
  go_wp2_with fail
  refine (divmod_any (x := x) (y := g) hn HG64.out HX.out HLG.out (hx.below BS4.out.below) (HCG.out.alloc _) HG0.out).mono ?_
  rintro e w4 ⟨⟨Dq, cq, Dr, cr, rfl, hlq, hlr, hcq, hcr, hfq, hfr⟩, hb4⟩
  clear q0 h46
  obtain ⟨lq, hlq2⟩ : ∃ l, l = L32 (x / g) := ⟨_, rfl⟩
  obtain ⟨lr, hlr2⟩ : ∃ l, l = L32 (x % g) := ⟨_, rfl⟩
  rw [← hlq2] at hlq hcq ⊢
  rw [← hlr2] at hlr hcr ⊢
  have HQ := Lib.hid hcq
  have HFQ := Lib.hid hfq
  have HZ3 := Lib.hid (show z < (w3.alloc (.cells #[.slice Dg lg cg] 32)).heap.size by rw [World.size_alloc]; have := (BS3.out.get (.head _)).2.1; omega)
  have HW4 := Lib.hid BS4.out.below.size
  have HLQ := Lib.hid hlq2
  have HLQC := Lib.hid hlq
  have HG4 := Lib.hid (((HCG.out.alloc (.cells #[.slice Dg lg cg] 32)).below hb4))
  have BS5 := Lib.hid (BS4.out.on hb4)
  obtain ⟨_, h1, k1⟩ := BS5.out.get (.tail _ (.tail _ (.head _)))
  obtain ⟨_, h6, k6⟩ := BS5.out.get (.head _)
  obtain ⟨_, h0, _⟩ := BS5.out.get (.tail _ (.tail _ (.tail _ (.head _))))
  have q1 : w4.cell? ⟨w.heap.size + 1, 0, none⟩ = some (.slice E m c') := k1.cell 0
  have q6 : w4.cell? ⟨w3.heap.size, 0, none⟩ = some (.slice Dg lg cg) := k6.cell 0
  have BS6 := (BS5.out.alloc 32 #[.slice Dq lq cq]).alloc 32 #[.slice Dr lr cr]
  simp only [World.size_alloc] at BS6
  have BS6 := Lib.hid BS6
  clear hcq hcr hfq hfr hlq2 hlr2 hb4 k1 k6 hlq hlr BS4 BS3
  unfold natv
  go_wp2_with fail
  refine (divmod_any (x := y) (y := g) hm HG64.out HY.out HLG.out (hy.below BS6.out.below) ((HG4.out.alloc _).alloc _) HG0.out).mono ?_
  rintro e w5 ⟨⟨Ds, cs, Dt, ct, rfl, hls, hlt, hcs, hct, hfs, hft⟩, hb5⟩
  clear q1 q6 h0 h1 h6
  obtain ⟨ls, hls2⟩ : ∃ l, l = L32 (y / g) := ⟨_, rfl⟩
  obtain ⟨lt, hlt2⟩ : ∃ l, l = L32 (y % g) := ⟨_, rfl⟩
  rw [← hls2] at hls hcs ⊢
  rw [← hlt2] at hlt hct ⊢
  have HS := Lib.hid hcs
  have HFS := Lib.hid hfs
  have HZ4 := Lib.hid (show z < ((w4.alloc (.cells #[.slice Dq lq cq] 32)).alloc (.cells #[.slice Dr lr cr] 32)).heap.size from (BS6.out.get (.tail _ (.tail _ (.tail _ (.head _))))).2.1)
  have HW6 := Lib.hid BS6.out.below.size
  have HLS := Lib.hid hls2
  have HLSC := Lib.hid hls
  have HQ5 := Lib.hid (((HQ.out.alloc _).alloc _).below hb5)
  have BS7 := Lib.hid (BS6.out.on hb5)
  obtain ⟨_, h8, k8⟩ := BS7.out.get (.tail _ (.head _))
  obtain ⟨_, h4, k4⟩ := BS7.out.get (.tail _ (.tail _ (.tail _ (.head _))))
  have q8 : w5.cell? ⟨w4.heap.size, 0, none⟩ = some (.slice Dq lq cq) := k8.cell 0
  have r0 : w5.cell? ⟨z, 0, none⟩ = some (.slice none 0 0) := k4.cell 0
  have r1 : w5.cell? ⟨z, 1, none⟩ = some (.slice none 0 0) := k4.cell 1
  have f0 : w5.frozen? ⟨z, 0, none⟩ = false := k4.frozen 0
  have f1 : w5.frozen? ⟨z, 1, none⟩ = false := k4.frozen 1
  have HB7 := Lib.hid BS7.out.below
  clear hcs hct hfs hft hls2 hlt2 hb5 k8 k4 hls hlt BS6 HQ HG4 HCG
  unfold natv
  go_wp2
  refine bodyPost_ret (v := .tuple #[.agg #[.slice Dq lq cq, .slice Ds ls cs], .int .i64 0]) (by simp [results, Try.results57, go_sem, r0, r1, h4]) rfl ?_
  refine ⟨?_, ends2 HB7.out hzw _ _ _ _⟩
  rw [← HGG.out]
  refine ⟨Dq, cq, Ds, cs, by rw [← HLQ.out, ← HLS.out]; rfl, by rw [← HLQ.out]; exact HLQC.out, by rw [← HLS.out]; exact HLSC.out, ?_, ?_, HFQ.out.mono HW4.out, HFS.out.mono HW6.out⟩
  · rw [← HLQ.out]
    exact (((HQ5.out.set_ HFQ.out HZ3.out _ _).set_ HFQ.out HZ3.out _ _).alloc _).alloc _
  · rw [← HLS.out]
    exact (((HS.out.set_ HFS.out HZ4.out _ _).set_ HFS.out HZ4.out _ _).alloc _).alloc _
end Fr
end Go.Proofs.Ytiflmnmkmpjecaa

/- The walk of frac.Valid. -/
set_option linter.unusedVariables false
namespace Go.Proofs.Ytiflmnmkmpjecaa
open Go.RowKit
namespace Fr
/-- Is x / y a valid fraction? -/
def fok (x y : Nat) : Bool := decide (0 < y) && (Nat.gcd x y == 1)
theorem box1 (w : World) (S T : Value) : Bs w (w.alloc (.cells #[S, T] 34)) [(w.heap.size, 34, #[S, T])] :=
  (Bs.nil w).alloc 34 #[S, T]
set_option maxHeartbeats 4000000 in
set_option maxRecDepth 100000 in
theorem valid_any {D E : Option Addr} {n m c c' x y : Nat} {w : World} (hn : n ≤ 64) (hm : m ≤ 64) (hnx : n = L32 x) (hmy : m = L32 y) (hx : Cells w D n (Lm (d32 x))) (hy : Cells w E m (Lm (d32 y))) :
    Calls Try.prog 48 #[fv D n c E m c'] w fun e w' => e = .returned (.bool (fok x y)) ∧ Below w.heap.size w w' := by
  have hvx := Lib.hid (vd_true hn hnx)
  have hvy := Lib.hid (vd_true hm hmy)
  have HM0 := Lib.hid (show m = 0 ↔ y = 0 by rw [hmy]; exact L32_zero)
  have HX := Lib.hid hnx
  have HY := Lib.hid hmy
  obtain ⟨g, hg⟩ : ∃ g, g = Nat.gcd x y := ⟨_, rfl⟩
  obtain ⟨lg, hlg2⟩ : ∃ l, l = L32 g := ⟨_, rfl⟩
  have HG64 : Hid (lg ≤ 64) := by rw [hlg2, hg]; exact Lib.hid (gcd_len (x := x) (y := y) (by omega) (by omega))
  have HGG := Lib.hid hg
  have HLG := Lib.hid hlg2
  clear hg hlg2 hnx hmy
  have BS0 := Lib.hid (box1 w (.slice D n c) (.slice E m c'))
  unfold fv
  go_enter Try.func48, Try.ntmps48
  go_wp2_with fail
  refine (nvalid_is (by omega) (hx.below BS0.out.below) hvx.out).mono ?_
  rintro e w1 ⟨rfl, hb1⟩
  have BS1 := Lib.hid (BS0.out.on hb1)
  clear hb1 BS0
  obtain ⟨_, h1, k1⟩ := BS1.out.get (.head _)
  have q1 : w1.cell? ⟨w.heap.size, 1, none⟩ = some (.slice E m c') := k1.cell 1
  clear k1
  go_wp2_with fail
  refine (nvalid_is (by omega) (hy.below BS1.out.below) hvy.out).mono ?_
  rintro e w2 ⟨rfl, hb1⟩
  clear h1 q1
  have BS2 := Lib.hid (BS1.out.on hb1)
  clear hb1 BS1
  obtain ⟨_, h1, k1⟩ := BS2.out.get (.head _)
  have q0 : w2.cell? ⟨w.heap.size, 0, none⟩ = some (.slice D n c) := k1.cell 0
  have q1 : w2.cell? ⟨w.heap.size, 1, none⟩ = some (.slice E m c') := k1.cell 1
  clear k1
  by_cases hm0 : m = 0
  · have HR : Hid (fok x y = false) := Lib.hid (by unfold fok; rw [HM0.out.1 hm0]; rfl)
    have HB := Lib.hid BS2.out.below
    subst hm0
    go_wp2
    go_ret
    exact ⟨by rw [HR.out]; rfl, HB.out⟩
  · have hmz : ((m : Int) == 0) = false := by simp; omega
    have HY0 : Hid (0 < y) := Lib.hid (by have := HM0.out; omega)
    clear hm0
    go_wp2_with fail
    refine (gcd_any (x := x) (y := y) hn hm HX.out HY.out (hx.below BS2.out.below) (hy.below BS2.out.below)).mono ?_
    rintro e w3 ⟨Dg, cg, rfl, hlg, hcg, hfg, hb3⟩
    rw [← HGG.out, ← HLG.out] at hlg hcg ⊢
    have BS3 := Lib.hid ((BS2.out.on hb3).alloc 32 #[.slice Dg lg cg])
    have HCG := Lib.hid (hcg.alloc (.cells #[.slice Dg lg cg] 32))
    clear hcg hlg hfg hb3 BS2 q0 q1 h1
    unfold natv
    go_wp2_with fail
    obtain ⟨wa, hwa⟩ : ∃ wa, wa = w3.alloc (.cells #[.slice Dg lg cg] 32) := ⟨_, rfl⟩
    rw [← hwa] at BS3 HCG ⊢
    clear hwa
    obtain ⟨q3, hq3⟩ : ∃ q, q = w3.heap.size := ⟨_, rfl⟩
    rw [← hq3] at BS3 ⊢
    clear hq3
    have HALL : Hid (∀ w', Below wa.heap.size wa w' → w'.cell? ⟨q3, 0, none⟩ = some (.slice Dg lg cg) ∧ Below wa.heap.size wa w') := Lib.hid fun w' hw => ⟨((BS3.out.on hw).get (.head _)).2.2.cell 0, hw⟩
    have HL1 := Lib.hid (L32_one (k := 1) (by omega) (by omega))
    have HOF : Hid (∀ w', Below wa.heap.size wa w' → Calls Try.prog 55 #[.int .u64 1] w' fun e w'' => ∃ D1 c1, e = .returned (.agg #[.slice D1 1 c1]) ∧ Cells w'' D1 1 (Lm (d32 1)) ∧ Below wa.heap.size wa w'') := Lib.hid fun w' hw => by
      refine (of_any 1 (by omega) w').mono ?_
      rintro e w'' ⟨D1, c1, rfl, _, h2, h3⟩
      rw [HL1.out] at h2 ⊢
      exact ⟨D1, c1, rfl, h2, Below.on hw h3⟩
    have HCM : Hid (∀ w' D1 c1, Cells w' D1 1 (Lm (d32 1)) → Below wa.heap.size wa w' → Calls Try.prog 49 #[.agg #[.slice Dg lg cg], .agg #[.slice D1 1 c1]] w' fun e w'' => e = .returned (.int .i64 (cmpI g 1)) ∧ Below wa.heap.size wa w'') := Lib.hid fun w' D1 c1 h1 hw =>
      (ncmp_any (x := g) (y := 1) HG64.out (by omega) HLG.out HL1.out.symm (HCG.out.below hw) h1).mono fun e w'' ⟨h2, h3⟩ => ⟨h2, Below.on hw h3⟩
    have A0 : Below wa.heap.size wa wa.drew := (Below.refl _ _).drew
    have HR : Hid (fok x y = (cmpI g 1 == 0)) := Lib.hid (by
      unfold fok
      rw [decide_eq_true HY0.out, Bool.true_and]
      rw [← HGG.out]
      unfold cmpI
      by_cases h : g = 1
      · subst h; rfl
      · rw [beq_eq_false_iff_ne.2 h]
        split
        · rfl
        · split
          · rfl
          · omega)
    go_region_held3 (fun w' => w'.cell? ⟨q3, 0, none⟩ = some (.slice Dg lg cg) ∧ Below wa.heap.size wa w')
      (first
        | exact HALL.out _ (by assumption))
      (first
        | (go_at_call 55; (with_reducible refine (HOF.out _ ?_).mono ?_); (assumption); rintro e5 w5 ⟨D1, c1, rfl, hc1, t5⟩)
        | (go_at_call 49; (with_reducible refine (HCM.out _ _ _ hc1 ?_).mono ?_); (assumption); rintro e6 w6 ⟨rfl, t6⟩)
        | fail)
    all_goals
      have HB := Lib.hid (Below.on BS3.out.below t6)
      clear t5 t6 A0
      go_wp2
      go_ret
      exact ⟨by rw [HR.out]; rfl, HB.out⟩
set_option maxHeartbeats 4000000 in
theorem valid_bad {D E : Option Addr} {n m c c' : Nat} {f g : Nat → Nat} {w : World} (hn : n ≤ 9223372036854775807) (hm : m ≤ 9223372036854775807) (hx : Cells w D n (Lm f)) (hy : Cells w E m (Lm g)) (hv : vd n f = false ∨ vd n f = true ∧ vd m g = false) :
    Calls Try.prog 48 #[fv D n c E m c'] w fun e w' => e = .returned (.bool false) ∧ Below w.heap.size w w' := by
  have BS0 := Lib.hid (box1 w (.slice D n c) (.slice E m c'))
  unfold fv
  rcases hv with hv | ⟨hv, hv2⟩
  · have HV := Lib.hid hv
    clear hv
    go_enter Try.func48, Try.ntmps48
    go_wp2_with fail
    refine (nvalid_is hn (hx.below BS0.out.below) HV.out).mono ?_
    rintro e w1 ⟨rfl, hb1⟩
    have HB := Lib.hid (BS0.out.on hb1).below
    clear hb1
    go_wp2
    go_ret
    exact ⟨rfl, HB.out⟩
  · have HV := Lib.hid hv
    have HV2 := Lib.hid hv2
    clear hv hv2
    go_enter Try.func48, Try.ntmps48
    go_wp2_with fail
    refine (nvalid_is hn (hx.below BS0.out.below) HV.out).mono ?_
    rintro e w1 ⟨rfl, hb1⟩
    have BS1 := Lib.hid (BS0.out.on hb1)
    clear hb1 BS0
    obtain ⟨_, h1, k1⟩ := BS1.out.get (.head _)
    have q1 : w1.cell? ⟨w.heap.size, 1, none⟩ = some (.slice E m c') := k1.cell 1
    clear k1
    go_wp2_with fail
    refine (nvalid_is hm (hy.below BS1.out.below) HV2.out).mono ?_
    rintro e w2 ⟨rfl, hb1⟩
    have HB := Lib.hid (BS1.out.on hb1).below
    clear hb1
    go_wp2
    go_ret
    exact ⟨rfl, HB.out⟩
end Fr
end Go.Proofs.Ytiflmnmkmpjecaa

/- The walk of frac.products. -/
set_option linter.unusedVariables false
namespace Go.Proofs.Ytiflmnmkmpjecaa
open Go.RowKit
namespace Fr
/-- Two products, or an overflow. -/
def Two2 (B : Nat) (w' : World) (e : Ending) (p q : Nat) : Prop :=
  (L32 p ≤ 64 ∧ L32 q ≤ 64 ∧ ∃ D c E c', e = .returned (.tuple #[natv D (L32 p) c, natv E (L32 q) c', .int .i64 0]) ∧ L32 p ≤ c ∧ L32 q ≤ c' ∧ Cells w' D (L32 p) (Lm (d32 p)) ∧ Cells w' E (L32 q) (Lm (d32 q)) ∧ Fresh B D ∧ Fresh B E) ∨
  ((64 < L32 p ∨ 64 < L32 q) ∧ e = .returned (.tuple #[natv none 0 0, natv none 0 0, .int .i64 9]))
theorem bse {B : Nat} {w w' : World} (h : Below B w w') {b : Nat} (hb : B ≤ b) (i : Nat) (u : Value) : Below B w (w'.setCell ⟨b, i, none⟩ u) := h.setCell (p := ⟨b, i, none⟩) hb u
abbrev TN : TypeId := 32
theorem boxes6 (w : World) (S T U V : Value) : Bs w ((((((w.alloc (.cells #[S] TN)).alloc (.cells #[T] TN)).alloc (.cells #[U] TN)).alloc (.cells #[V] TN)).alloc (.cells #[.slice none 0 0] TN)).alloc (.cells #[.slice none 0 0] TN))
    [(w.heap.size + 1 + 1 + 1 + 1 + 1, TN, #[.slice none 0 0]), (w.heap.size + 1 + 1 + 1 + 1, TN, #[.slice none 0 0]), (w.heap.size + 1 + 1 + 1, TN, #[V]), (w.heap.size + 1 + 1, TN, #[U]), (w.heap.size + 1, TN, #[T]), (w.heap.size, TN, #[S])] := by
  have := ((((((Bs.nil w).alloc TN #[S]).alloc TN #[T]).alloc TN #[U]).alloc TN #[V]).alloc TN #[.slice none 0 0]).alloc TN #[.slice none 0 0]
  simp only [World.size_alloc] at this
  exact this
set_option maxHeartbeats 4000000 in
set_option maxRecDepth 100000 in
theorem products_any {D0 D1 D2 D3 : Option Addr} {n0 n1 n2 n3 c0 c1 c2 c3 x0 x1 x2 x3 : Nat} {w : World} (hn0 : n0 ≤ 64) (hn1 : n1 ≤ 64) (hn2 : n2 ≤ 64) (hn3 : n3 ≤ 64) (h0 : n0 = L32 x0) (h1 : n1 = L32 x1) (h2 : n2 = L32 x2) (h3 : n3 = L32 x3)
    (hx0 : Cells w D0 n0 (Lm (d32 x0))) (hx1 : Cells w D1 n1 (Lm (d32 x1))) (hx2 : Cells w D2 n2 (Lm (d32 x2))) (hx3 : Cells w D3 n3 (Lm (d32 x3))) :
    Calls Try.prog 71 #[natv D0 n0 c0, natv D1 n1 c1, natv D2 n2 c2, natv D3 n3 c3] w fun e w' => Two2 w.heap.size w' e (x0 * x1) (x2 * x3) ∧ Below w.heap.size w w' := by
  have H0 := Lib.hid h0
  have H1 := Lib.hid h1
  have H2 := Lib.hid h2
  have H3 := Lib.hid h3
  clear h0 h1 h2 h3
  have bs := boxes6 w (.slice D0 n0 c0) (.slice D1 n1 c1) (.slice D2 n2 c2) (.slice D3 n3 c3)
  obtain ⟨p, hp⟩ : ∃ p, p = x0 * x1 := ⟨_, rfl⟩
  obtain ⟨q, hq⟩ : ∃ q, q = x2 * x3 := ⟨_, rfl⟩
  have HP := Lib.hid hp
  have HQ := Lib.hid hq
  rw [← hp, ← hq]
  clear hp hq
  have BS0 := Lib.hid bs
  clear bs
  unfold natv
  go_enter Try.func71, Try.ntmps71
  go_wp2_with fail
  refine (mul_any (x := x0) (y := x1) hn0 hn1 H0.out H1.out (hx0.below BS0.out.below) (hx1.below BS0.out.below)).mono ?_
  rintro e w1 ⟨hr, hb1⟩
  rw [← HP.out] at hr
  have bs1 := BS0.out.on hb1
  obtain ⟨z5, hz5⟩ : ∃ z, z = w.heap.size + 1 + 1 + 1 + 1 + 1 := ⟨_, rfl⟩
  obtain ⟨z4, hz4⟩ : ∃ z, z = w.heap.size + 1 + 1 + 1 + 1 := ⟨_, rfl⟩
  obtain ⟨z3, hz3⟩ : ∃ z, z = w.heap.size + 1 + 1 + 1 := ⟨_, rfl⟩
  obtain ⟨z2, hz2⟩ : ∃ z, z = w.heap.size + 1 + 1 := ⟨_, rfl⟩
  have hw4 : w.heap.size ≤ z4 := by omega
  have hw5 : w.heap.size ≤ z5 := by omega
  have h45 : z4 ≠ z5 := by omega
  have h54 : z5 ≠ z4 := by omega
  rw [← hz5, ← hz4, ← hz3, ← hz2] at bs1 ⊢
  have BS1 := Lib.hid bs1
  have hz0 := (BS0.out.get (.head _)).2.1
  have hz1 := (BS0.out.get (.tail _ (.head _))).2.1
  rw [← hz5] at hz0
  rw [← hz4] at hz1
  have HZ5 := Lib.hid hz0
  have HZ4 := Lib.hid hz1
  have HW0 := Lib.hid BS0.out.below.size
  obtain ⟨_, l4, k4⟩ := bs1.get (.tail _ (.head _))
  obtain ⟨_, l5, k5⟩ := bs1.get (.head _)
  clear BS0 hb1 bs1 hz5 hz4 hz3 hz2 hz0 hz1
  rcases hr with ⟨hp64, Dp, cp, rfl, hlp, hcp, hfp⟩ | ⟨hp64, rfl⟩
  · obtain ⟨lp, hlp2⟩ : ∃ l, l = L32 p := ⟨_, rfl⟩
    rw [← hlp2] at hlp hcp hp64 ⊢
    have HLP := Lib.hid hlp2
    have BS2 := Lib.hid (BS1.out.alloc TN #[.slice Dp lp cp])
    have HCP := Lib.hid (hcp.alloc (.cells #[.slice Dp lp cp] TN))
    have HFP := Lib.hid hfp
    obtain ⟨_, l2, k2⟩ := BS1.out.get (.tail _ (.tail _ (.tail _ (.head _))))
    obtain ⟨_, l3, k3⟩ := BS1.out.get (.tail _ (.tail _ (.head _)))
    have q2 : w1.cell? ⟨z2, 0, none⟩ = some (.slice D2 n2 c2) := k2.cell 0
    have q3 : w1.cell? ⟨z3, 0, none⟩ = some (.slice D3 n3 c3) := k3.cell 0
    clear hlp2 hcp hfp k2 k3 k4 k5
    unfold natv
    go_wp2_with fail
    refine (mul_any (x := x2) (y := x3) hn2 hn3 H2.out H3.out (hx2.below BS2.out.below) (hx3.below BS2.out.below)).mono ?_
    rintro e w2 ⟨hr, hb2⟩
    rw [← HQ.out] at hr
    clear q2 q3 l2 l3 l4 l5
    have BS3 := Lib.hid (BS2.out.on hb2)
    have HCP2 := Lib.hid (HCP.out.below hb2)
    obtain ⟨_, l4, k4⟩ := BS3.out.get (.tail _ (.tail _ (.head _)))
    obtain ⟨_, l5, k5⟩ := BS3.out.get (.tail _ (.head _))
    obtain ⟨_, l6, k6⟩ := BS3.out.get (.head _)
    have r4 : w2.cell? ⟨z4, 0, none⟩ = some (.slice none 0 0) := k4.cell 0
    have r5 : w2.cell? ⟨z5, 0, none⟩ = some (.slice none 0 0) := k5.cell 0
    have f4 : w2.frozen? ⟨z4, 0, none⟩ = false := k4.frozen 0
    have f5 : w2.frozen? ⟨z5, 0, none⟩ = false := k5.frozen 0
    clear HCP hb2
    rcases hr with ⟨hq64, Dq, cq, rfl, hlq, hcq, hfq⟩ | ⟨hq64, rfl⟩
    · obtain ⟨lq, hlq2⟩ : ∃ l, l = L32 q := ⟨_, rfl⟩
      rw [← hlq2] at hlq hcq hq64 ⊢
      have HLQ := Lib.hid hlq2
      have HCQ := Lib.hid hcq
      have HFQ := Lib.hid hfq
      have hq1 : w1.heap.size ≠ z4 := by have := (BS1.out.get (.tail _ (.head _))).2.1; omega
      have hq2 : w1.heap.size ≠ z5 := by have := (BS1.out.get (.head _)).2.1; omega
      have hn4 : w2.heap.size ≠ z4 := by omega
      have hn5 : w2.heap.size ≠ z5 := by omega
      have r6 : w2.cell? ⟨w1.heap.size, 0, none⟩ = some (.slice Dp lp cp) := k6.cell 0
      clear k4 k5 k6 hcq hfq hlq2
      unfold natv
      go_wp2
      obtain ⟨wa, hwa⟩ : ∃ wa, wa = w2.alloc (.cells #[.slice Dq lq cq] TN) := ⟨_, rfl⟩
      have BS4 := BS3.out.alloc TN #[.slice Dq lq cq]
      have CP4 := HCP2.out.alloc (.cells #[.slice Dq lq cq] TN)
      have CQ4 := HCQ.out.alloc (.cells #[.slice Dq lq cq] TN)
      obtain ⟨za, hza⟩ : ∃ z, z = w2.heap.size := ⟨_, rfl⟩
      obtain ⟨zb, hzb⟩ : ∃ z, z = w1.heap.size := ⟨_, rfl⟩
      have HZB := Lib.hid (show z4 < (w1.alloc (.cells #[.slice Dp lp cp] TN)).heap.size ∧ z5 < (w1.alloc (.cells #[.slice Dp lp cp] TN)).heap.size from ⟨(BS2.out.get (.tail _ (.tail _ (.head _)))).2.1, (BS2.out.get (.tail _ (.head _))).2.1⟩)
      have HW2 := Lib.hid BS2.out.below.size
      rw [← hwa] at BS4 CP4 CQ4
      rw [← hza] at BS4 hn4 hn5
      rw [← hzb] at BS4 hq1 hq2
      change Code.wp _ _ _ _ (w2.alloc (.cells #[.slice Dq lq cq] TN))
      rw [← hwa, ← hza, ← hzb]
      have BSH := Lib.hid BS4
      obtain ⟨_, la, ka⟩ := BS4.get (.head _)
      obtain ⟨_, lb, kb⟩ := BS4.get (.tail _ (.head _))
      obtain ⟨_, l4', k4⟩ := BS4.get (.tail _ (.tail _ (.tail _ (.head _))))
      obtain ⟨_, l5', k5⟩ := BS4.get (.tail _ (.tail _ (.head _)))
      have ra : wa.cell? ⟨za, 0, none⟩ = some (.slice Dq lq cq) := ka.cell 0
      have rb : wa.cell? ⟨zb, 0, none⟩ = some (.slice Dp lp cp) := kb.cell 0
      have s4 : wa.cell? ⟨z4, 0, none⟩ = some (.slice none 0 0) := k4.cell 0
      have s5 : wa.cell? ⟨z5, 0, none⟩ = some (.slice none 0 0) := k5.cell 0
      have g4 : wa.frozen? ⟨z4, 0, none⟩ = false := k4.frozen 0
      have g5 : wa.frozen? ⟨z5, 0, none⟩ = false := k5.frozen 0
      have HCPW := Lib.hid CP4
      have HCQW := Lib.hid CQ4
      clear hwa hza hzb r4 r5 f4 f5 r6 l4 l5 l6 BS4 CP4 CQ4 ka kb k4 k5 BS3
      go_region_law (fail)
      all_goals
        go_wp2
        refine bodyPost_ret (v := .tuple #[natv Dp lp cp, natv Dq lq cq, .int .i64 0]) (by unfold natv; simp [results, Try.results71, go_sem, s4, s5]) rfl ?_
        refine ⟨.inl ⟨by rw [← HLP.out]; exact hp64, by rw [← HLQ.out]; exact hq64, Dp, cp, Dq, cq, by rw [← HLP.out, ← HLQ.out], by rw [← HLP.out]; exact hlp, by rw [← HLQ.out]; exact hlq, ?_, ?_, HFP.out.mono HW0.out, HFQ.out.mono HW2.out⟩, ?_⟩
        · rw [← HLP.out]
          exact (HCPW.out.set_ HFP.out HZ4.out _ _).set_ HFP.out HZ5.out _ _
        · rw [← HLQ.out]
          exact (HCQW.out.set_ HFQ.out HZB.out.1 _ _).set_ HFQ.out HZB.out.2 _ _
        · repeat' (first | exact BSH.out.below | refine bse ?_ (by assumption) _ _ | refine Below.drew ?_)
    · have HB3 := Lib.hid BS3.out.below
      clear k4 k5 k6
      unfold natv
      go_wp2
      refine bodyPost_ret (v := .tuple #[natv none 0 0, natv none 0 0, .int .i64 9]) (by unfold natv; simp [results, Try.results71, go_sem, r4, r5, l4, l5]) rfl ?_
      refine ⟨.inr ⟨.inr hq64, rfl⟩, ?_⟩
      repeat' (first | exact HB3.out | refine bl_alloc ?_ _ | refine bse ?_ (by assumption) _ _)
  · have HB3 := Lib.hid BS1.out.below
    have r4 : w1.cell? ⟨z4, 0, none⟩ = some (.slice none 0 0) := k4.cell 0
    have r5 : w1.cell? ⟨z5, 0, none⟩ = some (.slice none 0 0) := k5.cell 0
    have f4 : w1.frozen? ⟨z4, 0, none⟩ = false := k4.frozen 0
    have f5 : w1.frozen? ⟨z5, 0, none⟩ = false := k5.frozen 0
    clear k4 k5
    unfold natv
    go_wp2
    refine bodyPost_ret (v := .tuple #[natv none 0 0, natv none 0 0, .int .i64 9]) (by unfold natv; simp [results, Try.results71, go_sem, r4, r5, l4, l5]) rfl ?_
    refine ⟨.inr ⟨.inl hp64, rfl⟩, ?_⟩
    repeat' (first | exact HB3.out | refine bl_alloc ?_ _ | refine bse ?_ (by assumption) _ _)
end Fr
end Go.Proofs.Ytiflmnmkmpjecaa
