/- Several texts in one. -/
import Derived.Test.YtiflmnmkmpjecaaFaRuns
import Derived.Test.YtiflmnmkmpjecaaG8
import Derived.Test.YtiflmnmkmpjecaaFaRRuns
import Derived.Test.YtiflmnmkmpjecaaG4
/- The forms of the results that two functions are compared by. -/
set_option linter.unusedVariables false
namespace Go.Proofs.Ytiflmnmkmpjecaa
open Go.RowKit
namespace Fa
open Fr
/-- A fraction by numbers, with the error beside it. -/
def Gw (w' : World) (e : Ending) (a b : Nat) (y : Int) : Prop :=
  ∃ (D : Option Addr) (l c : Nat) (E : Option Addr) (m c' : Nat), e = .returned (.tuple #[.agg #[.slice D l c, .slice E m c'], .int .i64 y]) ∧ l ≤ 1000 ∧ m ≤ 1000 ∧ l = L32 a ∧ m = L32 b ∧ Cells w' D l (Lm (d32 a)) ∧ Cells w' E m (Lm (d32 b))
def Says (W : World) (f : FuncId) (args : Array Value) (a b : Nat) (y : Int) : Prop :=
  ∀ w', Below W.heap.size W w' → Calls Try.prog f args w' fun e w'' => Gw w'' e a b y ∧ Below w'.heap.size w' w''
theorem Gw.res {B : Nat} {w' : World} {e : Ending} {a b : Nat} (h : Res B w' e a b) (ha : L32 a ≤ 64) (hb : L32 b ≤ 64) : Gw w' e a b 0 := by
  obtain ⟨D, c, E, c', rfl, _, _, h1, h2, _, _⟩ := h
  exact ⟨D, _, c, E, _, c', rfl, by omega, by omega, rfl, rfl, h1, h2⟩
theorem Gw.err {w' : World} {e : Ending} {y : Nat} (h : Err e y) : Gw w' e 0 0 (y : Int) := by
  unfold Err at h
  have h0 : L32 0 = 0 := L32_zero.2 rfl
  exact ⟨none, 0, 0, none, 0, 0, h, by omega, by omega, h0.symm, h0.symm, Cells.nil, Cells.nil⟩
theorem same_eq {D0 D1 D2 D3 : Option Addr} {n0 n1 n2 n3 c0 c1 c2 c3 x0 x1 : Nat} {w : World} (hn0 : n0 ≤ 1000) (hn1 : n1 ≤ 1000) (hn2 : n2 ≤ 1000) (hn3 : n3 ≤ 1000) (h0 : n0 = L32 x0) (h1 : n1 = L32 x1) (h2 : n2 = L32 x0) (h3 : n3 = L32 x1)
    (hx0 : Cells w D0 n0 (Lm (d32 x0))) (hx1 : Cells w D1 n1 (Lm (d32 x1))) (hx2 : Cells w D2 n2 (Lm (d32 x0))) (hx3 : Cells w D3 n3 (Lm (d32 x1))) :
    Calls Try.prog 17 #[fv D0 n0 c0 D1 n1 c1, fv D2 n2 c2 D3 n3 c3] w fun e w' => e = .returned (.bool true) ∧ Below w.heap.size w w' := by
  have := same_any (c0 := c0) (c1 := c1) (c2 := c2) (c3 := c3) hn0 hn1 hn2 hn3 h0 h1 h2 h3 hx0 hx1 hx2 hx3
  simpa using this
end Fa
end Go.Proofs.Ytiflmnmkmpjecaa

/- The walks of the reference's power and one (55). -/
set_option linter.unusedVariables false
namespace Go.Proofs.Ytiflmnmkmpjecaa
open Go.RowKit
namespace Fa
open Fr
theorem boxes2N (w : World) (S : Value) : Bs w ((w.alloc (.cells #[S] TN)).alloc (.cells #[.slice none 0 0] TN)) [(w.heap.size + 1, TN, #[.slice none 0 0]), (w.heap.size, TN, #[S])] := by
  have := ((Bs.nil w).alloc TN #[S]).alloc TN #[.slice none 0 0]
  simp only [World.size_alloc] at this
  exact this
set_option maxHeartbeats 8000000 in
set_option maxRecDepth 100000 in
theorem rpower_any {D : Option Addr} {l c a n : Nat} {w : World} (hl : l ≤ 64) (hla : l = L32 a) (hD : Cells w D l (Lm (d32 a))) (hn : n ≤ 9223372036854775806) :
    Calls Try.prog 59 #[.agg #[.slice D l c], .int .i64 (n : Int)] w fun e w' => ((L32 (a ^ n) ≤ 64 ∧ Num1 w.heap.size w' e (a ^ n)) ∨ (64 < L32 (a ^ n) ∧ e = .returned (.tuple #[.agg #[.slice none 0 0], .int .i64 9]))) ∧ Below w.heap.size w w' := by
  have BS0 := Lib.hid (boxes2N w (.slice D l c))
  have HLA := Lib.hid hla
  have HD := Lib.hid hD
  have HN := Lib.hid hn
  clear hla hD hn
  go_enter Try.func59, Try.ntmps59
  go_wp2_with fail
  refine (rof_new 1 (by omega) _).mono ?_
  rintro e w2 ⟨D0, c0, rfl, _, hc0, hf0, hb2⟩
  obtain ⟨l0, hl0⟩ : ∃ l, l = L32 1 := ⟨_, rfl⟩
  rw [← hl0] at hc0 ⊢
  have BQ := BS0.out.on hb2
  have bs2 := BQ.alloc TN #[.slice D0 l0 c0]
  obtain ⟨wa, hwa⟩ : ∃ wa, wa = w2.alloc (.cells #[.slice D0 l0 c0] TN) := ⟨_, rfl⟩
  obtain ⟨pb, hpb⟩ : ∃ b, b = w2.heap.size := ⟨_, rfl⟩
  obtain ⟨z, hz⟩ : ∃ b, b = w.heap.size + 1 := ⟨_, rfl⟩
  obtain ⟨ab, hab⟩ : ∃ b, b = w.heap.size := ⟨_, rfl⟩
  have hzw : w.heap.size ≤ z := by omega
  have hap : ab < pb := by have := (BQ.get (.tail _ (.head _))).2.1; omega
  have hzp : z < pb := by have := (BQ.get (.head _)).2.1; omega
  have haz : ab < z := by omega
  have HL0 : Hid (l0 = L32 (a ^ 0)) := Lib.hid (by rw [hl0, Nat.pow_zero])
  have HC0 : Hid (Cells (w2.alloc (.cells #[.slice D0 l0 c0] TN)) D0 l0 (Lm (d32 (a ^ 0)))) := Lib.hid (by rw [Nat.pow_zero]; exact hc0.alloc _)
  have H640 : Hid (L32 (a ^ 0) ≤ 64) := Lib.hid (by rw [Nat.pow_zero]; exact one_len)
  have HF0 : Hid (Fresh (z + 1) D0) := Lib.hid (hf0.mono (by rw [World.size_alloc, World.size_alloc]; omega))
  rw [← hwa] at bs2 HC0
  rw [← hpb, ← hz, ← hab] at bs2
  have BS2 := Lib.hid bs2
  clear hc0 hf0 hb2 BQ bs2 BS0 hl0
  go_wp2
  change Code.wp _ _ _ _ (w2.alloc (.cells #[.slice D0 l0 c0] TN))
  rw [← hwa]
  rw [show (Value.pointer (some ⟨w2.heap.size, 0, none⟩)) = .pointer (some ⟨pb, 0, none⟩) by rw [hpb], show (Value.pointer (some ⟨w.heap.size, 0, none⟩)) = .pointer (some ⟨ab, 0, none⟩) by rw [hab], show (Value.pointer (some ⟨w.heap.size + 1, 0, none⟩)) = .pointer (some ⟨z, 0, none⟩) by rw [hz]]
  clear hwa hpb hz hab
  go_loopw [7] (fun s7 wr => ∃ (j : Nat) (Dp : Option Addr) (lp cp : Nat), Hid (j ≤ n) ∧ s7 = .int .i64 (j : Int) ∧ Hid (lp = L32 (a ^ j)) ∧ Hid (Cells wr Dp lp (Lm (d32 (a ^ j)))) ∧ Hid (Fresh (z + 1) Dp) ∧ Hid (L32 (a ^ j) ≤ 64) ∧ Hid (Bs w wr [(pb, TN, #[.slice Dp lp cp]), (z, TN, #[.slice none 0 0]), (ab, TN, #[.slice D l c])])) (fun i _ => n - (intOf i).toNat)
  case atStart => exact ⟨0, D0, l0, c0, Lib.hid (Nat.zero_le _), rfl, HL0, HC0, HF0, H640, BS2⟩
  case round =>
    clear HL0 HC0 HF0 H640 BS2
    obtain ⟨j, Dp, lp, cp, HJ, rfl, HLP, HCP, HFP, H64, HBS⟩ := hrel
    obtain ⟨_, lpb, kp⟩ := HBS.out.get (.head _)
    have qp : wr.cell? ⟨pb, 0, none⟩ = some (.slice Dp lp cp) := kp.cell 0
    obtain ⟨_, lab, ka⟩ := HBS.out.get (.tail _ (.tail _ (.head _)))
    have qa : wr.cell? ⟨ab, 0, none⟩ = some (.slice D l c) := ka.cell 0
    clear kp ka
    by_cases hjn : j < n
    · have g1 : ((j : Int) < (n : Int)) := by omega
      have hw1 : IntKind.i64.wrap ((j : Int) + 1) = (j : Int) + 1 := IntWalk.i64_in _ (by have := HN.out; omega)
      have HJN := Lib.hid hjn
      have lp64 : lp ≤ 64 := by rw [HLP.out]; exact H64.out
      clear hjn
      go_wp2_with fail
      refine (refMul_any (x := a ^ j) (y := a) lp64 hl HLP.out HLA.out HCP.out (HD.out.below HBS.out.below)).mono ?_
      rintro e w4 ⟨hr, hb⟩
      have BS4 := Lib.hid (HBS.out.on hb)
      have HPW : Hid (a ^ j * a = a ^ (j + 1)) := Lib.hid (Nat.pow_succ a j).symm
      rw [HPW.out] at hr
      have hs3 := (HBS.out.get (.tail _ (.head _))).2.1
      clear qp qa lpb lab
      rcases hr with ⟨h64, Dn, cn, rfl, _, hcn, hfn⟩ | ⟨h64, rfl⟩
      · obtain ⟨ln, hln⟩ : ∃ l, l = L32 (a ^ (j + 1)) := ⟨_, rfl⟩
        rw [← hln] at hcn ⊢
        have HLN := Lib.hid hln
        have H64N := Lib.hid h64
        have HAN := Lib.hid (show Apart pb Dn from Apart.of_fresh hfn (HBS.out.get (.head _)).2.1)
        have HFN := Lib.hid (hfn.mono hs3)
        have HCN := Lib.hid hcn
        obtain ⟨_, lb, kb⟩ := BS4.out.get (.head _)
        have qb : w4.cell? ⟨pb, 0, none⟩ = some (.slice Dp lp cp) := kb.cell 0
        have fb : w4.frozen? ⟨pb, 0, none⟩ = false := kb.frozen 0
        have nb : pb ≠ w4.heap.size := by omega
        clear kb hln hcn hfn hb HCP HBS h64
        unfold natv
        go_wp2
        go_roundw
        case rel =>
          refine ⟨j + 1, Dn, ln, cn, Lib.hid HJN.out, by go_num, HLN, ?_, HFN, H64N, ?_⟩
          · exact Lib.hid ((HCN.out.apart HAN.out 0 _).alloc _)
          · refine Lib.hid (((Bs.put (cs := #[.slice Dp lp cp]) BS4.out ?_ 0 _).alloc _ _).sub fun x hx => .tail _ hx)
            intro b' t' cs' hb
            simp at hb
            omega
        case measure => have := HJN.out; simp [intOf] <;> omega
      · have HE := Lib.hid (pow_len (n := n) HJN.out h64)
        have HB := Lib.hid BS4.out.below
        obtain ⟨_, lz, kz⟩ := BS4.out.get (.tail _ (.head _))
        have qz : w4.cell? ⟨z, 0, none⟩ = some (.slice none 0 0) := kz.cell 0
        have fz : w4.frozen? ⟨z, 0, none⟩ = false := kz.frozen 0
        clear h64 hb kz
        unfold natv
        go_wp2
        refine bodyPost_ret (v := .tuple #[.agg #[.slice none 0 0], .int .i64 9]) (by simp [results, Try.results59, go_sem, qz, lz]) rfl ?_
        exact ⟨.inr ⟨HE.out, rfl⟩, by repeat' (first | exact HB.out | refine bl_alloc ?_ _ | refine bse ?_ hzw _ _)⟩
    · obtain rfl : j = n := by have := HJ.out; omega
      have g1 : ((j : Int) < (j : Int)) = False := eq_false (by omega)
      have HB := Lib.hid HBS.out.below
      obtain ⟨_, lz, kz⟩ := HBS.out.get (.tail _ (.head _))
      have qz : wr.cell? ⟨z, 0, none⟩ = some (.slice none 0 0) := kz.cell 0
      have fz : wr.frozen? ⟨z, 0, none⟩ = false := kz.frozen 0
      clear kz hjn HJ
      go_wp2
      refine bodyPost_ret (v := .tuple #[.agg #[.slice Dp lp cp], .int .i64 0]) (by simp [results, Try.results59, go_sem, qz]) rfl ?_
      refine ⟨.inl ⟨H64.out, Dp, lp, cp, rfl, HLP.out, HCP.out.set_ HFP.out (Nat.lt_succ_self _) _ _, HFP.out.mono (by omega)⟩, bse HB.out hzw _ _⟩
set_option maxHeartbeats 2000000 in
theorem one55_any (w : World) {n : Nat} (hn : n ≤ 9223372036854775807) :
    Calls Try.prog 40 #[.int .i64 (n : Int)] w fun e w' => (∃ (Da : Option Addr) (ca : Nat) (Db : Option Addr) (cb' : Nat), e = .returned (fv Da (L32 (n / Nat.gcd n 1)) ca Db (L32 (1 / Nat.gcd n 1)) cb') ∧ Cells w' Da (L32 (n / Nat.gcd n 1)) (Lm (d32 (n / Nat.gcd n 1))) ∧ Cells w' Db (L32 (1 / Nat.gcd n 1)) (Lm (d32 (1 / Nat.gcd n 1))) ∧ Fresh w.heap.size Da ∧ Fresh w.heap.size Db) ∧ Below w.heap.size w w' := by
  have BS0 := Lib.hid (box0 w)
  have HOF := Lib.hid fun w' => rof_ok w' (x := n) (y := 1) hn (by omega) (by omega)
  obtain ⟨qa, hqa⟩ : ∃ v, v = n / Nat.gcd n 1 := ⟨_, rfl⟩
  obtain ⟨qb, hqb⟩ : ∃ v, v = 1 / Nat.gcd n 1 := ⟨_, rfl⟩
  rw [← hqa, ← hqb] at HOF ⊢
  clear hqa hqb hn
  go_enter Try.func40, Try.ntmps40
  go_wp2_with fail
  refine (HOF.out _).mono ?_
  rintro e w5 ⟨⟨Da', ca', Db', cb', rfl, hla, hlb, hca, hcb, hfa, hfb⟩, hb5⟩
  have HZ6 := Lib.hid (BS0.out.get (.head _)).2.1
  have HW6 := Lib.hid BS0.out.below.size
  have BS5 := Lib.hid (BS0.out.on hb5)
  clear hb5 BS0
  obtain ⟨_, lz, kz⟩ := BS5.out.get (.head _)
  have s0 : w5.cell? ⟨w.heap.size, 0, none⟩ = some (.slice none 0 0) := kz.cell 0
  have s1 : w5.cell? ⟨w.heap.size, 1, none⟩ = some (.slice none 0 0) := kz.cell 1
  have f0 : w5.frozen? ⟨w.heap.size, 0, none⟩ = false := kz.frozen 0
  have f1 : w5.frozen? ⟨w.heap.size, 1, none⟩ = false := kz.frozen 1
  have HB7 := Lib.hid BS5.out.below
  clear kz
  obtain ⟨l1, hl1⟩ : ∃ l, l = L32 (qa) := ⟨_, rfl⟩
  obtain ⟨l2, hl2⟩ : ∃ l, l = L32 (qb) := ⟨_, rfl⟩
  rw [← hl1] at hca ⊢
  rw [← hl2] at hcb ⊢
  have HCA := Lib.hid hca
  have HCB := Lib.hid hcb
  have HFA := Lib.hid hfa
  have HFB := Lib.hid hfb
  have HL1 := Lib.hid hl1
  have HL2 := Lib.hid hl2
  clear hl1 hl2 hca hcb hfa hfb hla hlb
  unfold fv
  go_wp2
  refine bodyPost_ret (v := fv Da' l1 ca' Db' l2 cb') (by unfold fv; simp [results, Try.results40, go_sem, s0, s1, lz]) rfl ?_
  refine ⟨⟨Da', ca', Db', cb', by rw [← HL1.out, ← HL2.out], ?_, ?_, HFA.out.mono HW6.out, HFB.out.mono HW6.out⟩, ?_⟩
  · rw [← HL1.out]
    exact ((HCA.out.set_ HFA.out HZ6.out _ _).set_ HFA.out HZ6.out _ _).alloc _
  · rw [← HL2.out]
    exact ((HCB.out.set_ HFB.out HZ6.out _ _).set_ HFB.out HZ6.out _ _).alloc _
  · repeat' (first | exact HB7.out | refine bl_alloc ?_ _ | refine bse ?_ (Nat.le_refl _) _ _)
end Fa
end Go.Proofs.Ytiflmnmkmpjecaa
