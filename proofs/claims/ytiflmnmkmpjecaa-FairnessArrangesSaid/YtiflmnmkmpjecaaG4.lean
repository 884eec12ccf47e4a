/- Several texts in one. -/
import Derived.Test.YtiflmnmkmpjecaaFaRuns
import Derived.Test.YtiflmnmkmpjecaaG13
import Derived.Deep.RegionHeld3
/- The walks of fairness.powers and product. -/
set_option linter.unusedVariables false
namespace Go.Proofs.Ytiflmnmkmpjecaa
open Go.RowKit
namespace Fa
open Fr
theorem Try.infoN : (Try.prog.info? 32).map (fun i => (i.zero, i.size, i.bytes)) = some (some (.agg #[.slice none 0 0]), 1, 24) := by kernel_rfl
/-- The value of a number. -/
def El (w : World) (v : Value) (A : Nat) : Prop := ∃ D l c, v = .slice D l c ∧ l = L32 A ∧ Cells w D l (Lm (d32 A))
theorem El.below {w w' : World} {v : Value} {A : Nat} (h : El w v A) (hb : Below w.heap.size w w') : El w' v A := by
  obtain ⟨D, l, c, e, hl, hc⟩ := h
  exact ⟨D, l, c, e, hl, hc.below hb⟩
/-- The value of a number that lies off the blocks g and p. -/
def Ela (g p : Nat) (w : World) (v : Value) (A : Nat) : Prop := ∃ D l c, v = .slice D l c ∧ l = L32 A ∧ Cells w D l (Lm (d32 A)) ∧ (0 < l → Apart g D ∧ Apart p D)
theorem Ela.below {g p : Nat} {w w' : World} {v : Value} {A : Nat} (h : Ela g p w v A) (hb : Below w.heap.size w w') : Ela g p w' v A := by
  obtain ⟨D, l, c, e, hl, hc, ha⟩ := h
  exact ⟨D, l, c, e, hl, hc.below hb, ha⟩
theorem Ela.grown {g p : Nat} {w w' : World} {v : Value} {A : Nat} (h : Ela g p w v A) (hb : w.grownBy w' (some g)) : Ela g p w' v A := by
  obtain ⟨D, l, c, e, hl, hc, ha⟩ := h
  exact ⟨D, l, c, e, hl, fun h0 => (hc.grown (ha h0).1 hb) h0, ha⟩
theorem Ela.put {g p : Nat} {w : World} {v : Value} {A : Nat} (h : Ela g p w v A) (i : Nat) (u : Value) : Ela g p (w.setCell ⟨p, i, none⟩ u) v A := by
  obtain ⟨D, l, c, e, hl, hc, ha⟩ := h
  exact ⟨D, l, c, e, hl, fun h0 => (hc.apart (ha h0).2 i u) h0, ha⟩
theorem Ela.el {g p : Nat} {w : World} {v : Value} {A : Nat} (h : Ela g p w v A) : El w v A := by
  obtain ⟨D, l, c, e, hl, hc, ha⟩ := h
  exact ⟨D, l, c, e, hl, hc⟩
theorem bl_al {w : World} (o : Obj) : Below w.heap.size w (w.alloc o) := (Below.refl _ _).alloc (Nat.le_refl _) o
theorem Bs.grown {w0 w w' : World} {l : List (Nat × TypeId × Array Value)} {g : Nat} (h : Bs w0 w l) (hg : w.grownBy w' (some g)) (hw : w0.heap.size ≤ g) (hne : ∀ b t cs, (b, t, cs) ∈ l → b ≠ g) : Bs w0 w' l :=
  ⟨h.below.grown hg h.below.size (fun k hk => by injection hk with hk; omega), fun b t cs hb => ⟨(h.blk b t cs hb).1, (h.blk b t cs hb).2.grown hg (by intro e; injection e with e; exact hne b t cs hb e)⟩⟩
theorem own_set' {B h : Nat} {w : World} {e : TypeId} {size : Nat} {v : Value} {n : Nat} {xs : List Value} (hown : w.ownsRow B e size v n xs) (hne : v.ownBlock ≠ some h) (i : Nat) (u : Value) : (w.setCell ⟨h, i, none⟩ u).ownsRow B e size v n xs :=
  hown.kept (only_set (only_refl w h) i u) (.inr hne)
theorem pow_len {a i n : Nat} (h : i ≤ n) (h64 : 64 < L32 (a ^ i)) : 64 < L32 (a ^ n) := by
  rcases Nat.eq_zero_or_pos a with e | e
  · subst e
    rcases Nat.eq_zero_or_pos i with e | e
    · subst e
      have : L32 (0 ^ 0) ≤ 1 := fit32_le (n := 1) (by unfold Fit32; decide)
      omega
    · rw [Nat.zero_pow e, L32_zero.2 rfl] at h64
      omega
  · exact Nat.lt_of_lt_of_le h64 (Nt.len_mono (by omega) (Nat.pow_le_pow_right e h))
def upd1 (G : Nat → Value) (j : Nat) (v : Value) : Nat → Value := fun i => if i = j then v else G i
theorem row_upd (G : Nat → Value) (j : Nat) (v : Value) : row ((j + 1) * 1) (upd1 G j v) = row (j * 1) G ++ [v] := by
  rw [Nat.mul_one, Nat.mul_one, row_one]
  congr 1
  · exact row_congr fun i hi => by unfold upd1; rw [if_neg (by omega)]
  · unfold upd1; rw [if_pos rfl]
set_option maxHeartbeats 8000000 in
set_option maxRecDepth 100000 in
theorem powers_any {D : Option Addr} {l c a n : Nat} {w : World} (hl : l ≤ 64) (hla : l = L32 a) (hD : Cells w D l (Lm (d32 a))) (hn : n ≤ 64) :
    Calls Try.prog 50 #[.agg #[.slice D l c], .int .i64 (n : Int)] w fun e w' => ((L32 (a ^ n) ≤ 64 ∧ ∃ P k G, e = .returned (.tuple #[.slice P (n + 1) k, .int .i64 0]) ∧ Cells w' P (n + 1) G ∧ (∀ i, i ≤ n → El w' (G i) (a ^ i)) ∧ Fresh w.heap.size P) ∨ (64 < L32 (a ^ n) ∧ e = .returned (.tuple #[.slice none 0 0, .int .i64 9]))) ∧ Below w.heap.size w w' := by
  obtain ⟨i0, hi, hz0, hz1, hz2⟩ := info_parts Try.infoN
  have BS0 := Lib.hid (box1z w (.slice D l c))
  have HLA := Lib.hid hla
  have HD := Lib.hid hD
  have hw1 : IntKind.i64.wrap ((n : Int) + 1) = ((n + 1 : Nat) : Int) := by rw [IntWalk.i64_in _ (by omega)]; rfl
  clear hla hD
  go_enter Try.func50, Try.ntmps50
  go_wp2_with (at_make; refine wpList_make_own _ rfl _ _ 74 rfl (w.heap.size + 1) 32 i0 (.agg #[.slice none 0 0]) 1 Try.underlying74 hi hz0 hz1 _ _ _ (n + 1) rfl rfl rfl ?c1 ?c2 ?c3 ?_)
  case c1 => rw [hz2]; omega
  case c2 => unfold maxLen; omega
  case c3 => simp
  intro w1 hown1 hgr1
  obtain ⟨g, hg⟩ : ∃ g, g = w.heap.size + 1 := ⟨_, rfl⟩
  have hgw : w.heap.size ≤ g := by omega
  rw [← hg] at hown1 ⊢
  have bs1 : Bs w w1 [(w.heap.size, TN, #[.slice D l c])] := Bs.grown (g := g) BS0.out ⟨hgr1.os, hgr1.tape, hgr1.output, hgr1.size, fun k hk _ => hgr1.block k hk (by simp)⟩ hgw (fun b t cs hb => by simp at hb; omega)
  have hgl := (hown1.lt _ rfl).2
  have HO1 := Lib.hid hown1
  obtain ⟨ab, hab⟩ : ∃ z, z = w.heap.size := ⟨_, rfl⟩
  have hag : ab ≠ g := by omega
  rw [← hab] at bs1
  have BS1 := Lib.hid bs1
  rw [show (Value.pointer (some ⟨w.heap.size, 0, none⟩)) = .pointer (some ⟨ab, 0, none⟩) by rw [hab]]
  clear hg hgr1 bs1 hab BS0
  go_wp2_with fail
  refine (of_new 1 (by omega) _).mono ?_
  rintro e w2 ⟨D0, c0, rfl, _, hc0, hf0, hb2⟩
  have BQ := BS1.out.on hb2
  have bs2 := BQ.alloc TN #[.slice D0 (L32 1) c0]
  have HO2 := Lib.hid (own_keep (own_keep HO1.out hb2) ((Below.refl _ _).alloc (Nat.le_refl _) (.cells #[.slice D0 (L32 1) c0] TN)))
  obtain ⟨wa, hwa⟩ : ∃ wa, wa = w2.alloc (.cells #[.slice D0 (L32 1) c0] TN) := ⟨_, rfl⟩
  obtain ⟨l0, hl0⟩ : ∃ l, l = L32 1 := ⟨_, rfl⟩
  obtain ⟨pb, hpb⟩ : ∃ b, b = w2.heap.size := ⟨_, rfl⟩
  have hpg : pb ≠ g := by have := hb2.size; omega
  have hap : ab ≠ pb := by have := (BQ.get (.head _)).2.1; omega
  have hpw : w.heap.size ≤ pb := by have := BQ.below.size; omega
  rw [← hl0] at bs2 HO2 hwa hc0 ⊢
  have HL0 : Hid (l0 = L32 (a ^ 0)) := Lib.hid (by rw [hl0, Nat.pow_zero])
  have HC0 : Hid (Cells (w2.alloc (.cells #[.slice D0 l0 c0] TN)) D0 l0 (Lm (d32 (a ^ 0)))) := Lib.hid (by rw [Nat.pow_zero]; exact hc0.alloc _)
  have HA0 : Hid (0 < l0 → Apart g D0 ∧ Apart pb D0) := Lib.hid (fun h0 => ⟨Apart.of_fresh hf0 hgl, fun d hd => by
    obtain ⟨b, o, e, hlt, _⟩ := hc0 h0
    rw [hd] at e
    injection e with e
    subst e
    show b ≠ pb
    omega⟩)
  have H640 : Hid (L32 (a ^ 0) ≤ 64) := Lib.hid (by rw [Nat.pow_zero]; exact Nat.le_trans (fit32_le (N := 1) (n := 1) (by unfold Fit32; decide)) (by omega))
  rw [← hwa] at bs2 HO2 HC0
  rw [← hpb] at bs2
  have hgl2 : g < wa.heap.size := by rw [hwa, World.size_alloc]; have := hb2.size; omega
  have BS2 := Lib.hid bs2
  clear hc0 hf0 hb2 BQ bs2 HO1 BS1 hgl hown1 hl0
  go_wp2
  change Code.wp _ _ _ _ (w2.alloc (.cells #[.slice D0 l0 c0] TN))
  rw [← hwa]
  rw [show (Value.pointer (some ⟨w2.heap.size, 0, none⟩)) = .pointer (some ⟨pb, 0, none⟩) by rw [hpb]]
  clear hwa hpb
  go_loopw [8, 6] (fun s8 s6 wr => ∃ (j : Nat) (G : Nat → Value) (Dp : Option Addr) (lp cp : Nat), j ≤ n ∧ s8 = .int .i64 (j : Int) ∧ s6 = .slice (some ⟨g, 0, none⟩) j (n + 1) ∧ Hid (wr.ownsRow g TN 1 (.slice (some ⟨g, 0, none⟩) j (n + 1)) j (row (j * 1) G)) ∧ Hid (∀ i, i < j → Ela g pb wr (G i) (a ^ i)) ∧ Hid (lp = L32 (a ^ j)) ∧ Hid (Cells wr Dp lp (Lm (d32 (a ^ j)))) ∧ Hid (0 < lp → Apart g Dp ∧ Apart pb Dp) ∧ Hid (L32 (a ^ j) ≤ 64) ∧ Hid (Bs w wr [(pb, TN, #[.slice Dp lp cp]), (ab, TN, #[.slice D l c])]) ∧ g < wr.heap.size) (fun i _ _ => n + 1 - (intOf i).toNat)
  case atStart => exact ⟨0, fun _ => .int .i64 0, D0, l0, c0, Nat.zero_le _, rfl, rfl, HO2, Lib.hid (fun i hi => by omega), HL0, HC0, HA0, H640, BS2, hgl2⟩
  case round =>
    clear HO2 HL0 HC0 HA0 H640 BS2 hgl2
    obtain ⟨j, G, Dp, lp, cp, hj, rfl, rfl, HO, HG, HLP, HCP, HAP, H64, HBS, hgl⟩ := hrel
    have qp : wr.cell? ⟨pb, 0, none⟩ = some (.slice Dp lp cp) := (HBS.out.get (.head _)).2.2.cell 0
    have lpb := (HBS.out.get (.head _)).2.1
    go_wp2_with (at_builtin; refine wpList_append_fits _ rfl _ _ 74 rfl g TN i0 1 Try.underlying74 hi hz1 g j (n + 1) (row (j * 1) G) rfl (own_keep HO.out ((Below.refl _ _).alloc (Nat.le_refl _) _)) ⟨wr.heap.size, 0, none⟩ 1 1 [.slice Dp lp cp] rfl rfl ?d1 ?d2 ?d3 ?_)
    case d1 => exact fun i u hu => new_cell rfl (by simpa using hu)
    case d2 => intro u hu; simp at hu; subst hu; rfl
    case d3 => omega
    intro w3 hown3 hgr3
    have HO3 : Hid (w3.ownsRow g TN 1 (.slice (some ⟨g, 0, none⟩) (j + 1) (n + 1)) (j + 1) (row ((j + 1) * 1) (upd1 G j (.slice Dp lp cp)))) := Lib.hid (by rw [row_upd, Nat.mul_one]; exact hown3)
    have HG3 : Hid (∀ i, i < j + 1 → Ela g pb w3 (upd1 G j (.slice Dp lp cp) i) (a ^ i)) := Lib.hid fun i hi => by
      unfold upd1
      by_cases e : i = j
      · rw [if_pos e, e]
        exact Ela.grown ⟨Dp, lp, cp, rfl, HLP.out, HCP.out.alloc _, HAP.out⟩ hgr3
      · rw [if_neg e]
        exact ((HG.out i (by omega)).below (bl_al _)).grown hgr3
    have HCP3 : Hid (Cells w3 Dp lp (Lm (d32 (a ^ j)))) := Lib.hid fun h0 => ((HCP.out.alloc _).grown (HAP.out h0).1 hgr3) h0
    have BS3 : Hid (Bs w w3 [(pb, TN, #[.slice Dp lp cp]), (ab, TN, #[.slice D l c])]) := Lib.hid (Bs.grown (HBS.out.on (bl_al _)) hgr3 hgw fun b t cs hb => by simp at hb; omega)
    have hgl3 : g < w3.heap.size := by have := hgr3.size; simp at this; omega
    clear hown3 hgr3 HO HG HCP HBS qp lpb
    by_cases hjn : j = n
    · subst hjn
      have e0 : ((j : Int) == (j : Int)) = true := by simp
      have HC := Lib.hid (Cells.of_own HO3.out)
      have HB := Lib.hid BS3.out.below
      clear BS3
      go_wp2
      go_ret2
      exact ⟨.inl ⟨H64.out, _, _, _, rfl, by rw [← Nat.mul_one (j + 1)]; exact HC.out, fun i hi => (HG3.out i (by omega)).el, fun d hd => by injection hd with hd; subst hd; exact hgw⟩, HB.out⟩
    · have e0 : ((j : Int) == (n : Int)) = false := by simp; omega
      have e1 : (j == n) = false := by simp; omega
      have hjn2 : j < n := by omega
      have HJN := Lib.hid hjn2
      have lp64 : lp ≤ 64 := by rw [HLP.out]; exact H64.out
      obtain ⟨_, la, ka⟩ := BS3.out.get (.tail _ (.head _))
      obtain ⟨_, lb, kb⟩ := BS3.out.get (.head _)
      have qa : w3.cell? ⟨ab, 0, none⟩ = some (.slice D l c) := ka.cell 0
      have qb : w3.cell? ⟨pb, 0, none⟩ = some (.slice Dp lp cp) := kb.cell 0
      clear ka kb hjn hjn2
      go_wp2_with fail
      refine (mul_any (x := a ^ j) (y := a) lp64 hl HLP.out HLA.out HCP3.out (HD.out.below BS3.out.below)).mono ?_
      rintro e w4 ⟨hr, hb⟩
      have BS4 := Lib.hid (BS3.out.on hb)
      have HO4 := Lib.hid (own_keep HO3.out hb)
      have HG4 := Lib.hid (fun i hi => (HG3.out i hi).below hb)
      have hgl4 : g < w4.heap.size := by have := hb.size; omega
      have HPW : Hid (a ^ j * a = a ^ (j + 1)) := Lib.hid (Nat.pow_succ a j).symm
      have hs3 := (BS3.out.get (.head _)).2.1
      rw [HPW.out] at hr
      clear qa qb la lb
      rcases hr with ⟨h64, Dn, cn, rfl, _, hcn, hfn⟩ | ⟨h64, rfl⟩
      · obtain ⟨ln, hln⟩ : ∃ l, l = L32 (a ^ (j + 1)) := ⟨_, rfl⟩
        rw [← hln] at hcn ⊢
        have HLN := Lib.hid hln
        have H64N := Lib.hid h64
        have HAN : Hid (0 < ln → Apart g Dn ∧ Apart pb Dn) := Lib.hid fun _ => ⟨Apart.of_fresh hfn hgl3, Apart.of_fresh hfn hs3⟩
        have HCN := Lib.hid hcn
        obtain ⟨_, lb, kb⟩ := BS4.out.get (.head _)
        have qb : w4.cell? ⟨pb, 0, none⟩ = some (.slice Dp lp cp) := kb.cell 0
        have fb : w4.frozen? ⟨pb, 0, none⟩ = false := kb.frozen 0
        clear kb hln hcn hfn hb BS3 HO3 HG3 HCP3 h64
        unfold natv
        go_wp2
        go_roundw
        case rel =>
          refine ⟨j + 1, upd1 G j (.slice Dp lp cp), Dn, ln, cn, HJN.out, by go_num, rfl, ?_, ?_, HLN, ?_, HAN, H64N, ?_, ?_⟩
          · exact Lib.hid (own_keep (own_set' HO4.out (fun e => by have e2 : some g = some pb := e; injection e2 with e2; exact hpg e2.symm) 0 _) (bl_al _))
          · exact Lib.hid (fun i hi => ((HG4.out i hi).put 0 _).below (bl_al _))
          · exact Lib.hid fun h0 => ((HCN.out.apart (HAN.out h0).2 0 _).alloc _) h0
          · refine Lib.hid (((Bs.put (cs := #[.slice Dp lp cp]) BS4.out ?_ 0 _).alloc _ _).sub fun x hx => .tail _ hx)
            intro b' t' cs' hb
            simp at hb
            omega
          · have := hgl4; simp; omega
        case measure => have := HJN.out; simp [intOf] <;> omega
      · have HN := Lib.hid (pow_len (n := n) HJN.out h64)
        have HB := Lib.hid BS4.out.below
        clear h64 hb
        unfold natv
        go_wp2
        go_ret2
        exact ⟨.inr ⟨HN.out, rfl⟩, HB.out.alloc HB.out.size _⟩
end Fa
end Go.Proofs.Ytiflmnmkmpjecaa

/- The walk of fairness.product. -/
set_option linter.unusedVariables false
namespace Go.Proofs.Ytiflmnmkmpjecaa
open Go.RowKit
namespace Fa
open Fr
/-- The product of the first numbers. -/
def pr (X : Nat → Nat) : Nat → Nat
  | 0 => 1
  | i + 1 => pr X i * X i
set_option maxHeartbeats 8000000 in
set_option maxRecDepth 100000 in
theorem product_any {A : Option Addr} {n c : Nat} {G : Nat → Value} {X : Nat → Nat} {w : World} (hn : n ≤ 1000) (hA : Cells w A n G) (hX : ∀ i, i < n → El w (G i) (X i)) (hx64 : ∀ i, i < n → L32 (X i) ≤ 64) (hfit : ∀ i, i ≤ n → L32 (pr X i) ≤ 64) :
    Calls Try.prog 54 #[.slice A n c] w fun e w' => Num1 w.heap.size w' e (pr X n) ∧ Below w.heap.size w w' := by
  have BS0 := Lib.hid (box1z w (.slice none 0 0))
  have HA := Lib.hid hA
  have HX := Lib.hid hX
  have HX64 := Lib.hid hx64
  have HFIT := Lib.hid hfit
  clear hA hX hx64 hfit
  go_enter Try.func54, Try.ntmps54
  go_wp2_with fail
  refine (of_new 1 (by omega) _).mono ?_
  rintro e w2 ⟨D0, c0, rfl, _, hc0, hf0, hb2⟩
  obtain ⟨l0, hl0⟩ : ∃ l, l = L32 1 := ⟨_, rfl⟩
  rw [← hl0] at hc0 ⊢
  have HL0 : Hid (l0 = L32 (pr X 0)) := Lib.hid (by rw [hl0, pr])
  have BS2 := (BS0.out.on hb2).alloc TN #[.slice D0 l0 c0]
  have HC0 : Hid (Cells (w2.alloc (.cells #[.slice D0 l0 c0] TN)) D0 l0 (Lm (d32 (pr X 0)))) := Lib.hid (by rw [pr]; exact hc0.alloc _)
  obtain ⟨wa, hwa⟩ : ∃ wa, wa = w2.alloc (.cells #[.slice D0 l0 c0] TN) := ⟨_, rfl⟩
  obtain ⟨pb, hpb⟩ : ∃ b, b = w2.heap.size := ⟨_, rfl⟩
  obtain ⟨z, hz⟩ : ∃ b, b = w.heap.size := ⟨_, rfl⟩
  have hzp : z ≠ pb := by have := ((BS0.out.on hb2).get (.head _)).2.1; omega
  have hpw : w.heap.size ≤ pb := by have := (BS0.out.on hb2).below.size; omega
  have hzw : w.heap.size ≤ z := by omega
  have HF0 : Hid (Fresh (z + 1) D0) := Lib.hid (hf0.mono (by rw [World.size_alloc]; omega))
  rw [← hwa] at BS2 HC0
  rw [← hpb, ← hz] at BS2
  have BSL := Lib.hid BS2
  clear BS2 hc0 hf0 hl0 hb2 BS0
  go_wp2
  change Code.wp _ _ _ _ (w2.alloc (.cells #[.slice D0 l0 c0] TN))
  rw [← hwa]
  rw [show (Value.pointer (some ⟨w2.heap.size, 0, none⟩)) = .pointer (some ⟨pb, 0, none⟩) by rw [hpb], show (Value.pointer (some ⟨w.heap.size, 0, none⟩)) = .pointer (some ⟨z, 0, none⟩) by rw [hz]]
  clear hwa hpb hz
  go_loopw [12] (fun s12 wr => ∃ (k : Nat) (D : Option Addr) (l d : Nat), k ≤ n ∧ s12 = .int .i64 (k : Int) ∧ Hid (l = L32 (pr X k)) ∧ Hid (Cells wr D l (Lm (d32 (pr X k)))) ∧ Hid (Fresh (z + 1) D) ∧ Hid (Bs w wr [(pb, TN, #[.slice D l d]), (z, TN, #[.slice none 0 0])])) (fun i _ => n - (intOf i).toNat)
  case atStart => exact ⟨0, D0, l0, c0, Nat.zero_le _, rfl, HL0, HC0, HF0, BSL⟩
  case round =>
    clear HL0 HC0 HF0 BSL
    obtain ⟨k, D, l, d, hk, rfl, HL, HC, HF, HBS⟩ := hrel
    have qp : wr.cell? ⟨pb, 0, none⟩ = some (.slice D l d) := (HBS.out.get (.head _)).2.2.cell 0
    have lp := (HBS.out.get (.head _)).2.1
    by_cases hkn : k < n
    · have HKN := Lib.hid hkn
      obtain ⟨b1, o1, hA1, hlt1, hc1⟩ := cells_at (HA.out.below HBS.out.below) hkn
      obtain ⟨Dx, lx, cx, hG, hlx, hcx⟩ := (HX.out k hkn).below HBS.out.below
      rw [hG] at hc1
      subst hA1
      have HLX := Lib.hid hlx
      have HCX := Lib.hid (hcx.alloc (.cells #[.slice Dx lx cx] TN))
      have HC2 := Lib.hid (HC.out.alloc (.cells #[.slice Dx lx cx] TN))
      have l64 : l ≤ 64 := by rw [HL.out]; exact HFIT.out k (by omega)
      have lx64 : lx ≤ 64 := by rw [hlx]; exact HX64.out k hkn
      have BS3 := Lib.hid (HBS.out.alloc TN #[.slice Dx lx cx])
      clear hG hlx hcx HC HBS hkn
      go_wp2_with fail
      refine (mul_any (x := pr X k) (y := X k) l64 lx64 HL.out HLX.out HC2.out HCX.out).mono ?_
      rintro e w4 ⟨hr, hb⟩
      rcases hr with ⟨_, Dn, cn, rfl, _, hcn, hfn⟩ | ⟨h9, _⟩
      case inr => exact absurd h9 (by have := HFIT.out (k + 1) HKN.out; rw [pr] at this; omega)
      obtain ⟨ln, hln⟩ : ∃ l, l = L32 (pr X k * X k) := ⟨_, rfl⟩
      rw [← hln] at hcn ⊢
      have HLN : Hid (ln = L32 (pr X (k + 1))) := Lib.hid (by rw [hln, pr])
      have HCN : Hid (Cells w4 Dn ln (Lm (d32 (pr X (k + 1))))) := Lib.hid (by rw [pr]; exact hcn)
      have BS4 := Lib.hid (BS3.out.on hb)
      have HFN := Lib.hid (hfn.mono (show z + 1 ≤ _ from (BS3.out.get (.tail _ (.tail _ (.head _)))).2.1))
      have HFP := Lib.hid (show Apart pb Dn from Apart.of_fresh hfn (BS3.out.get (.tail _ (.head _))).2.1)
      clear hln hcn hfn hb qp lp BS3
      obtain ⟨_, lb, kb⟩ := BS4.out.get (.tail _ (.head _))
      have qb : w4.cell? ⟨pb, 0, none⟩ = some (.slice D l d) := kb.cell 0
      have fb : w4.frozen? ⟨pb, 0, none⟩ = false := kb.frozen 0
      clear kb
      unfold natv
      go_wp2
      go_roundw
      case rel =>
        refine ⟨k + 1, Dn, ln, cn, HKN.out, by go_num, HLN, ?_, HFN, ?_⟩
        · exact Lib.hid ((HCN.out.apart HFP.out 0 _).alloc _)
        · refine Lib.hid (((Bs.put (cs := #[.slice D l d]) (BS4.out.sub fun x hx => .tail _ hx) ?_ 0 _).alloc _ _).sub fun x hx => .tail _ hx)
          intro b' t' cs' hb
          simp at hb
          omega
      case measure => have := HKN.out; simp [intOf] <;> omega
    · obtain rfl : k = n := by omega
      obtain ⟨_, lz, kz⟩ := HBS.out.get (.tail _ (.head _))
      have qz : wr.cell? ⟨z, 0, none⟩ = some (.slice none 0 0) := kz.cell 0
      have fz : wr.frozen? ⟨z, 0, none⟩ = false := kz.frozen 0
      have HB7 := Lib.hid HBS.out.below
      clear kz
      go_wp2
      refine bodyPost_ret (v := .tuple #[.agg #[.slice D l d], .int .i64 0]) (by simp [results, Try.results54, go_sem, qz]) rfl ?_
      exact ⟨⟨D, l, d, rfl, HL.out, HC.out.set_ HF.out (Nat.lt_succ_self z) _ _, HF.out.mono (by omega)⟩, bse HB7.out hzw _ _⟩
end Fa
end Go.Proofs.Ytiflmnmkmpjecaa

/- The walk of fairness.Tail. -/
set_option linter.unusedVariables false
namespace Go.Proofs.Ytiflmnmkmpjecaa
open Go.RowKit
namespace Fa
open Fr
abbrev TI : TypeId := 3
abbrev TL : TypeId := 74
theorem cell_put {w : World} {b z o i : Nat} {u v : Value} (h : w.cell? ⟨b, o, none⟩ = some v) (hne : b ≠ z) : (w.setCell ⟨z, i, none⟩ u).cell? ⟨b, o, none⟩ = some v := by
  have hlt : b < w.heap.size := by
    rcases Nat.lt_or_ge b w.heap.size with hl | hg
    · exact hl
    · unfold World.cell? at h
      rw [Array.getElem?_eq_none hg] at h
      cases h
  have := (only_set (only_refl w z) i u).block b hlt (by intro e; injection e with e; exact hne e)
  unfold World.cell? at h ⊢
  rw [this]
  exact h
def G3 (x y z : Value) : Nat → Value := fun i => if i = 0 then x else if i = 1 then y else z
def X3 (x y z : Nat) : Nat → Nat := fun i => if i = 0 then x else if i = 1 then y else z
theorem pr3 (x y z : Nat) : pr (X3 x y z) 3 = 1 * x * y * z := rfl
/-- The terms of the sum. -/
def tm (n a r j : Nat) : Nat := 1 * a ^ j * r ^ (n - j) * cb n j
/-- Powers in memory. -/
def Pw (w : World) (P : Option Addr) (n a : Nat) : Prop := ∃ G, Cells w P (n + 1) G ∧ ∀ i, i ≤ n → El w (G i) (a ^ i)
theorem Pw.below {w w' : World} {P : Option Addr} {n a : Nat} (h : Pw w P n a) (hb : Below w.heap.size w w') : Pw w' P n a := by
  obtain ⟨G, hc, he⟩ := h
  exact ⟨G, hc.below hb, fun i hi => (he i hi).below hb⟩
set_option maxHeartbeats 8000000 in
set_option maxRecDepth 100000 in
theorem tterm_any {P Q : Option Addr} {n a r j kp kq nb hb mb : Nat} {w : World} (hn : n ≤ 64) (hj : j ≤ n) (bn : Blk w nb TI #[.int .i64 (n : Int)]) (bh : Blk w hb TL #[.slice P (n + 1) kp]) (bm : Blk w mb TL #[.slice Q (n + 1) kq]) (hP : Pw w P n a) (hQ : Pw w Q n r)
    (f0 : L32 (a ^ j) ≤ 64) (f1 : L32 (r ^ (n - j)) ≤ 64) (f2 : L32 (1 * a ^ j) ≤ 64) (f3 : L32 (1 * a ^ j * r ^ (n - j)) ≤ 64) (f4 : L32 (tm n a r j) ≤ 64) :
    Calls Try.prog 52 #[.int .i64 (j : Int), .pointer (some ⟨nb, 0, none⟩), .pointer (some ⟨hb, 0, none⟩), .pointer (some ⟨mb, 0, none⟩)] w fun e w' => Num1 w.heap.size w' e (tm n a r j) ∧ Below w.heap.size w w' := by
  have BS0 := Lib.hid (box1z w (.slice none 0 0))
  obtain ⟨G, hcP, heP⟩ := hP
  obtain ⟨K, hcQ, heQ⟩ := hQ
  obtain ⟨b1, o1, hP1, hlt1, hc1⟩ := cells_at hcP (k := j) (by omega)
  obtain ⟨b2, o2, hQ1, hlt2, hc2⟩ := cells_at hcQ (k := n - j) (by omega)
  obtain ⟨Dx, lx, cx, hGx, hlx, hcx⟩ := heP j hj
  obtain ⟨Dy, ly, cy, hKy, hly, hcy⟩ := heQ (n - j) (by omega)
  subst hP1 hQ1
  rw [hGx] at hc1
  rw [hKy] at hc2
  obtain ⟨m, hm⟩ : ∃ m, m = n - j := ⟨_, rfl⟩
  obtain ⟨x, hx⟩ : ∃ x, x = a ^ j := ⟨_, rfl⟩
  obtain ⟨y, hy⟩ : ∃ y, y = r ^ (n - j) := ⟨_, rfl⟩
  obtain ⟨v, hv⟩ : ∃ v, v = cb n j := ⟨_, rfl⟩
  have hv17 : L32 v ≤ 17 := by rw [hv]; exact cb_len (by omega) hj
  have K1 := fun w' => choose_any w' (n := n) (by omega) (j : Int)
  rw [show cz n (j : Int) = v by unfold cz; rw [if_pos (by omega), hv]; rfl] at K1
  have HK1 := Lib.hid K1
  unfold tm at f4 ⊢
  rw [← hx] at hcx hlx f0 f2 f3 f4
  rw [← hy] at hcy hly f1 f3 f4
  rw [← hv] at f4
  rw [← hx, ← hy, ← hv]
  rw [← hm] at hc2
  have hw1 : IntKind.i64.wrap ((n : Int) - (j : Int)) = (m : Int) := by rw [IntWalk.i64_in _ (by omega)]; omega
  have i1 : (0 : Int) ≤ (j : Int) := by omega
  have i2 : (j : Int) < ((n + 1 : Nat) : Int) := by omega
  have i3 : (0 : Int) ≤ (m : Int) := by omega
  have i4 : (m : Int) < ((n + 1 : Nat) : Int) := by omega
  have i5 : (j : Int) < (n : Int) + 1 := by omega
  have i6 : (m : Int) < (n : Int) + 1 := by omega
  have BN := Lib.hid bn
  have BH := Lib.hid bh
  have BM := Lib.hid bm
  have C1 := Lib.hid hc1
  have C2 := Lib.hid hc2
  have T1 := Lib.hid hlt1
  have T2 := Lib.hid hlt2
  have HLX := Lib.hid hlx
  have HLY := Lib.hid hly
  have HCX := Lib.hid hcx
  have HCY := Lib.hid hcy
  have F := Lib.hid (show L32 x ≤ 64 ∧ L32 y ≤ 64 ∧ L32 (1 * x) ≤ 64 ∧ L32 (1 * x * y) ≤ 64 ∧ L32 (1 * x * y * v) ≤ 64 ∧ L32 v ≤ 64 from ⟨f0, f1, f2, f3, f4, Nat.le_trans hv17 (by omega)⟩)
  have qn : w.cell? ⟨nb, 0, none⟩ = some (.int .i64 (n : Int)) := bn.cell 0
  have ln := bn.lt
  clear hm hx hy hv hv17 K1 f0 f1 f2 f3 f4 bn bh bm hc1 hc2 hlt1 hlt2 hlx hly hcx hcy hcP hcQ heP heQ hGx hKy
  go_enter Try.func52, Try.ntmps52
  go_wp2_with fail
  (with_reducible refine (HK1.out _).mono ?_)
  rintro e w1 ⟨⟨Dv, lv, cv, rfl, hlv, hcv, hfv⟩, hb1⟩
  have BQ := BS0.out.on hb1
  have bs1 := BQ.alloc TN #[.slice Dv lv cv]
  obtain ⟨wb, hwb⟩ : ∃ wb, wb = w1.alloc (.cells #[.slice Dv lv cv] TN) := ⟨_, rfl⟩
  have HCV := Lib.hid (hcv.alloc (.cells #[.slice Dv lv cv] TN))
  have HLV := Lib.hid hlv
  obtain ⟨vb, hvb⟩ : ∃ b, b = w1.heap.size := ⟨_, rfl⟩
  obtain ⟨z, hz⟩ : ∃ b, b = w.heap.size := ⟨_, rfl⟩
  rw [← hwb] at bs1 HCV
  rw [← hvb, ← hz] at bs1
  have hzw : w.heap.size ≤ z := by omega
  have n1 : nb ≠ z := by have := BN.out.lt; omega
  have n2 : hb ≠ z := by have := BH.out.lt; omega
  have n3 : mb ≠ z := by have := BM.out.lt; omega
  have n4 : b1 ≠ z := by have := T1.out; omega
  have n5 : b2 ≠ z := by have := T2.out; omega
  have n6 : vb ≠ z := by have := (BQ.get (.head _)).2.1; omega
  have BSb := Lib.hid bs1
  clear hlv hcv hfv hb1 BQ bs1 HK1 qn ln
  go_upto_region 4 with (fail)
  change Code.wp _ _ _ _ (w1.alloc (.cells #[.slice Dv lv cv] TN))
  rw [← hwb]
  rw [show (Value.pointer (some ⟨w1.heap.size, 0, none⟩)) = .pointer (some ⟨vb, 0, none⟩) by rw [hvb], show (Value.pointer (some ⟨w.heap.size, 0, none⟩)) = .pointer (some ⟨z, 0, none⟩) by rw [hz]]
  clear hwb hvb hz BS0
  have HALL : Hid (∀ w', Below wb.heap.size wb w' → w'.cell? ⟨nb, 0, none⟩ = some (.int .i64 (n : Int)) ∧ w'.cell? ⟨hb, 0, none⟩ = some (.slice (some ⟨b1, o1, none⟩) (n + 1) kp) ∧ w'.cell? ⟨mb, 0, none⟩ = some (.slice (some ⟨b2, o2, none⟩) (n + 1) kq) ∧ w'.cell? ⟨b1, o1 + j, none⟩ = some (.slice Dx lx cx) ∧ w'.cell? ⟨b2, o2 + m, none⟩ = some (.slice Dy ly cy) ∧ w'.cell? ⟨vb, 0, none⟩ = some (.slice Dv lv cv)) := Lib.hid fun w' hw => by
    have hbw := (BSb.out.on hw).below
    exact ⟨(BN.out.keep hbw).cell 0, (BH.out.keep hbw).cell 0, (BM.out.keep hbw).cell 0, ((bcell hbw).1 _ _ T1.out).trans C1.out, ((bcell hbw).1 _ _ T2.out).trans C2.out, ((BSb.out.on hw).get (.head _)).2.2.cell 0⟩
  have HPR : Hid (∀ w' b, Cells w' (some ⟨b, 0, none⟩) 3 (G3 (.slice Dx lx cx) (.slice Dy ly cy) (.slice Dv lv cv)) → Below wb.heap.size wb w' → Calls Try.prog 54 #[.slice (some ⟨b, 0, none⟩) 3 3] w' fun e w'' => (∃ D l c, e = .returned (.tuple #[.agg #[.slice D l c], .int .i64 0]) ∧ Hid (l = L32 (1 * x * y * v)) ∧ Cells w'' D l (Lm (d32 (1 * x * y * v))) ∧ Fresh w'.heap.size D) ∧ Below w'.heap.size w' w'' ∧ Below wb.heap.size wb w'') := Lib.hid fun w' b hc hw => by
    have hbw := (BSb.out.on hw).below
    refine (product_any (X := X3 x y v) (by omega) hc ?_ ?_ ?_).mono fun e w'' ⟨⟨D, l, c, h1, h3, h4, h5⟩, h2⟩ => ⟨⟨D, l, c, h1, Lib.hid h3, h4, h5⟩, h2, Below.on hw h2⟩
    · intro i hi
      match i, hi with
      | 0, _ => exact ⟨Dx, lx, cx, rfl, HLX.out, HCX.out.below hbw⟩
      | 1, _ => exact ⟨Dy, ly, cy, rfl, HLY.out, HCY.out.below hbw⟩
      | 2, _ => exact ⟨Dv, lv, cv, rfl, HLV.out, HCV.out.below hw⟩
    · intro i hi
      match i, hi with
      | 0, _ => exact F.out.1
      | 1, _ => exact F.out.2.1
      | 2, _ => exact F.out.2.2.2.2.2
    · intro i hi
      match i, hi with
      | 0, _ => exact Nat.le_trans (fit32_le (N := 1) (n := 1) (by unfold Fit32; decide)) (by omega)
      | 1, _ => exact F.out.2.2.1
      | 2, _ => exact F.out.2.2.2.1
      | 3, _ => exact F.out.2.2.2.2.1
  have A0 : Below wb.heap.size wb wb.drew := (Below.refl _ _).drew
  go_region_held3 (fun w' => w'.cell? ⟨nb, 0, none⟩ = some (.int .i64 (n : Int)) ∧ w'.cell? ⟨hb, 0, none⟩ = some (.slice (some ⟨b1, o1, none⟩) (n + 1) kp) ∧ w'.cell? ⟨mb, 0, none⟩ = some (.slice (some ⟨b2, o2, none⟩) (n + 1) kq) ∧ w'.cell? ⟨b1, o1 + j, none⟩ = some (.slice Dx lx cx) ∧ w'.cell? ⟨b2, o2 + m, none⟩ = some (.slice Dy ly cy) ∧ w'.cell? ⟨vb, 0, none⟩ = some (.slice Dv lv cv))
    (first
      | exact ⟨cell_put h8.1 n1, cell_put h8.2.1 n2, cell_put h8.2.2.1 n3, cell_put h8.2.2.2.1 n4, cell_put h8.2.2.2.2.1 n5, cell_put h8.2.2.2.2.2 n6⟩
      | exact HALL.out _ (by assumption)
      | exact HALL.out _ (bl_alloc (by assumption) _))
    (first
      | (go_at_call 54; (with_reducible refine (HPR.out _ _ ?_ ?_).mono ?_); (exact Cells.lit rfl fun i hi => by match i, hi with | 0, _ => rfl | 1, _ => rfl | 2, _ => rfl); (first | assumption | exact bl_alloc (by assumption) _); rintro e6 w6 ⟨⟨D6, l6, c6, rfl, hl6.out, hc6, hf6⟩, hb6, t6⟩; have h8 := HALL.out _ t6; have g6 : w6.cell? ⟨z, 0, none⟩ = some (.slice none 0 0) := ((BSb.out.on t6).get (.tail _ (.head _))).2.2.cell 0; have h6 : w6.frozen? ⟨z, 0, none⟩ = false := ((BSb.out.on t6).get (.tail _ (.head _))).2.2.frozen 0)
      | fail)
  all_goals
    have HB6 := Lib.hid (BSb.out.on t6).below
    have LZ := Lib.hid (Nat.lt_of_lt_of_le (BSb.out.get (.tail _ (.head _))).2.1 A0.size)
    have LW := Lib.hid BSb.out.below.size
    go_wp2
    refine bodyPost_ret (v := .tuple #[.agg #[.slice D6 l6 c6], .int .i64 0]) (by simp [results, Try.results52, go_sem, g6]) rfl ?_
    refine ⟨⟨D6, l6, c6, rfl, hl6.out, hc6.set_ hf6 (Nat.lt_of_lt_of_le LZ.out (by simp)) _ _, hf6.mono (Nat.le_trans LW.out (by simp))⟩, bse HB6.out hzw _ _⟩
theorem boxesT (w : World) (x S T : Value) : Bs w (((w.alloc (.cells #[x] TI)).alloc (.cells #[S, T] TF)).alloc (.cells #[.slice none 0 0, .slice none 0 0] TF))
    [(w.heap.size + 1 + 1, TF, #[.slice none 0 0, .slice none 0 0]), (w.heap.size + 1, TF, #[S, T]), (w.heap.size, TI, #[x])] := by
  have := (((Bs.nil w).alloc TI #[x]).alloc TF #[S, T]).alloc TF #[.slice none 0 0, .slice none 0 0]
  simp only [World.size_alloc] at this
  exact this
/-- The sum of the first terms from k on. -/
def st (n a r k : Nat) : Nat → Nat
  | 0 => 0
  | i + 1 => st n a r k i + tm n a r (k + i)
set_option maxHeartbeats 8000000 in
set_option maxRecDepth 100000 in
theorem tail_in {D E : Option Addr} {n0 n1 c0 c1 a d n k : Nat} {w : World} (hn0 : n0 ≤ 64) (hn1 : n1 ≤ 64) (h0 : n0 = L32 a) (h1 : n1 = L32 d) (hx : Cells w D n0 (Lm (d32 a))) (hy : Cells w E n1 (Lm (d32 d))) (hf : fok a d = true) (had : a ≤ d)
    (hn : n ≤ 64) (hk1 : 1 ≤ k) (hk : k ≤ n) (hd64 : L32 (d ^ n) ≤ 64) (ha64 : L32 (a ^ n) ≤ 64) (hr64 : L32 ((d - a) ^ n) ≤ 64)
    (hT : ∀ j, j ≤ n → L32 (a ^ j) ≤ 64 ∧ L32 ((d - a) ^ (n - j)) ≤ 64 ∧ L32 (1 * a ^ j) ≤ 64 ∧ L32 (1 * a ^ j * (d - a) ^ (n - j)) ≤ 64 ∧ L32 (tm n a (d - a) j) ≤ 64) (hS : ∀ i, i ≤ n - k + 1 → L32 (st n a (d - a) k i) ≤ 64) :
    Calls Try.prog 20 #[.int .i64 (n : Int), .int .i64 (k : Int), fv D n0 c0 E n1 c1] w fun e w' => Res w.heap.size w' e (st n a (d - a) k (n - k + 1) / Nat.gcd (st n a (d - a) k (n - k + 1)) (d ^ n)) (d ^ n / Nat.gcd (st n a (d - a) k (n - k + 1)) (d ^ n)) ∧ Below w.heap.size w w' := by
  have BS0 := Lib.hid (boxesT w (.int .i64 (n : Int)) (.slice D n0 c0) (.slice E n1 c1))
  have H0 := Lib.hid h0
  have H1 := Lib.hid h1
  have HX := Lib.hid hx
  have HY := Lib.hid hy
  have HAD := Lib.hid had
  have HT := Lib.hid hT
  have HS := Lib.hid hS
  have HD0 : Hid (0 < d ^ n) := Lib.hid (Nat.pow_pos (fok_pos hf))
  have HD64 := Lib.hid hd64
  have HA64 := Lib.hid ha64
  have HR64 := Lib.hid hr64
  have KV := fun (w' : World) (h : Below w.heap.size w w') => valid_any (c := c0) (c' := c1) hn0 hn1 h0 h1 (hx.below h) (hy.below h)
  rw [hf] at KV
  obtain ⟨r, hr⟩ : ∃ r, r = d - a := ⟨_, rfl⟩
  have HR := Lib.hid hr
  rw [← hr] at HT HS HR64 ⊢
  obtain ⟨S, hSS⟩ : ∃ S, S = st n a r k (n - k + 1) := ⟨_, rfl⟩
  have HSS := Lib.hid hSS
  rw [← hSS]
  obtain ⟨qa, hqa⟩ : ∃ v, v = S / Nat.gcd S (d ^ n) := ⟨_, rfl⟩
  obtain ⟨qb, hqb⟩ : ∃ v, v = d ^ n / Nat.gcd S (d ^ n) := ⟨_, rfl⟩
  have HQA := Lib.hid hqa
  have HQB := Lib.hid hqb
  rw [← hqa, ← hqb]
  clear hqa hqb
  have HC0 : Hid ((0 < cmpI a d) = False) := Lib.hid (eq_false (by
    unfold cmpI
    by_cases h : a < d
    · rw [if_pos h]; omega
    · rw [if_neg h, if_neg (by omega)]; omega))
  unfold fv at KV ⊢
  have HKV := Lib.hid KV
  clear KV h0 h1 hx hy had hT hS hf hd64 ha64 hr64 hr hSS
  go_enter Try.func20, Try.ntmps20
  go_wp2_with fail
  refine (HKV.out _ BS0.out.below).mono ?_
  rintro e w1 ⟨rfl, hb⟩
  have bs1 := BS0.out.on hb
  obtain ⟨z, hz⟩ : ∃ z, z = w.heap.size + 1 + 1 := ⟨_, rfl⟩
  obtain ⟨fb, hfb⟩ : ∃ z, z = w.heap.size + 1 := ⟨_, rfl⟩
  obtain ⟨nb, hnb⟩ : ∃ z, z = w.heap.size := ⟨_, rfl⟩
  have hzw : w.heap.size ≤ z := by omega
  have hnz : nb ≠ z := by omega
  rw [← hz, ← hfb, ← hnb] at bs1
  rw [← hz, ← hfb, show (Value.pointer (some ⟨w.heap.size, 0, none⟩)) = .pointer (some ⟨nb, 0, none⟩) by rw [hnb]]
  have BS1 := Lib.hid bs1
  clear hb bs1 hz hfb hnb BS0 HKV
  have qf0 : w1.cell? ⟨fb, 0, none⟩ = some (.slice D n0 c0) := (BS1.out.get (.tail _ (.head _))).2.2.cell 0
  have qf1 : w1.cell? ⟨fb, 1, none⟩ = some (.slice E n1 c1) := (BS1.out.get (.tail _ (.head _))).2.2.cell 1
  go_wp2_with fail
  refine (ncmp_any (x := a) (y := d) hn0 hn1 H0.out H1.out (HX.out.below BS1.out.below) (HY.out.below BS1.out.below)).mono ?_
  rintro e w2 ⟨rfl, hb⟩
  obtain ⟨cc, hcc⟩ : ∃ v, v = cmpI a d := ⟨_, rfl⟩
  rw [← hcc] at HC0 ⊢
  have hc0 := HC0.out
  have BS2 := Lib.hid (BS1.out.on hb)
  clear hb qf0 qf1 BS1 hcc HC0
  have qf1 : w2.cell? ⟨fb, 1, none⟩ = some (.slice E n1 c1) := (BS2.out.get (.tail _ (.head _))).2.2.cell 1
  have qn : w2.cell? ⟨nb, 0, none⟩ = some (.int .i64 (n : Int)) := (BS2.out.get (.tail _ (.tail _ (.head _)))).2.2.cell 0
  go_wp2_with fail
  refine (powers_any (a := d) hn1 H1.out (HY.out.below BS2.out.below) hn).mono ?_
  rintro e w3 ⟨⟨_, PD, kd, GD, rfl, hPD, heD, hfD⟩ | ⟨h9, _⟩, hb⟩
  case inr => exact absurd h9 (by have := HD64.out; omega)
  have BS3 := Lib.hid (BS2.out.on hb)
  have APZ := Lib.hid (show Apart z PD from Apart.of_fresh hfD (BS2.out.get (.head _)).2.1)
  have HPD : Hid (Pw w3 PD n d) := Lib.hid ⟨GD, hPD, heD⟩
  clear hb qf1 qn BS2 hPD heD hfD
  have qf0 : w3.cell? ⟨fb, 0, none⟩ = some (.slice D n0 c0) := (BS3.out.get (.tail _ (.head _))).2.2.cell 0
  have qf1 : w3.cell? ⟨fb, 1, none⟩ = some (.slice E n1 c1) := (BS3.out.get (.tail _ (.head _))).2.2.cell 1
  go_wp2_with fail
  refine (sub_any (x := d) (y := a) hn1 hn0 H1.out H0.out (HY.out.below BS3.out.below) (HX.out.below BS3.out.below) HAD.out).mono ?_
  rintro e w4 ⟨Dr, cr, rfl, _, hcr, hfr, hb⟩
  rw [← HR.out] at hcr ⊢
  obtain ⟨lr, hlr⟩ : ∃ l, l = L32 r := ⟨_, rfl⟩
  rw [← hlr] at hcr ⊢
  have HLR := Lib.hid hlr
  have hlr64 : lr ≤ 64 := by rw [hlr, HR.out]; exact Nat.le_trans (Nt.len_mono (by omega) (Nat.sub_le d a)) (show L32 d ≤ 64 by rw [← show n1 = L32 d from H1.out]; exact hn1)
  have BQ := Lib.hid (BS3.out.on hb)
  have BS4 := Lib.hid (BQ.out.alloc TN #[.slice Dr lr cr])
  have HCR := Lib.hid (hcr.alloc (.cells #[.slice Dr lr cr] TN))
  have HPD4 := Lib.hid ((HPD.out.below hb).below (bl_al (.cells #[.slice Dr lr cr] TN)))
  clear hb qf0 qf1 hlr hcr hfr BS3 HPD
  obtain ⟨_, lf, kf⟩ := BQ.out.get (.tail _ (.head _))
  obtain ⟨_, ln, kn⟩ := BQ.out.get (.tail _ (.tail _ (.head _)))
  have qf0 : w4.cell? ⟨fb, 0, none⟩ = some (.slice D n0 c0) := kf.cell 0
  have qn : w4.cell? ⟨nb, 0, none⟩ = some (.int .i64 (n : Int)) := kn.cell 0
  clear kf kn
  unfold natv
  go_wp2_with fail
  refine (powers_any (a := a) hn0 H0.out (HX.out.below BS4.out.below) hn).mono ?_
  rintro e w5 ⟨⟨_, PA, ka, GA, rfl, hPA, heA, _⟩ | ⟨h9, _⟩, hb⟩
  case inr => exact absurd h9 (by have := HA64.out; omega)
  have BQ5 := Lib.hid (BS4.out.on hb)
  have BS5 := Lib.hid (BQ5.out.alloc TL #[.slice PA (n + 1) ka])
  have HPA := Lib.hid ((show Pw w5 PA n a from ⟨GA, hPA, heA⟩).below (bl_al (.cells #[.slice PA (n + 1) ka] TL)))
  have HPD5 := Lib.hid ((HPD4.out.below hb).below (bl_al (.cells #[.slice PA (n + 1) ka] TL)))
  have HCR5 := Lib.hid ((HCR.out.below hb).below (bl_al (.cells #[.slice PA (n + 1) ka] TL)))
  clear hb qf0 qn lf ln hPA heA BQ BS4 HPD4 HCR
  obtain ⟨_, lb, kb⟩ := BQ5.out.get (.head _)
  obtain ⟨_, ln, kn⟩ := BQ5.out.get (.tail _ (.tail _ (.tail _ (.head _))))
  have qr : w5.cell? ⟨w4.heap.size, 0, none⟩ = some (.slice Dr lr cr) := kb.cell 0
  have qn : w5.cell? ⟨nb, 0, none⟩ = some (.int .i64 (n : Int)) := kn.cell 0
  clear kb kn
  go_wp2_with fail
  refine (powers_any (a := r) hlr64 HLR.out HCR5.out hn).mono ?_
  rintro e w6 ⟨⟨_, PR, kr, GR, rfl, hPR, heR, _⟩ | ⟨h9, _⟩, hb⟩
  case inr => exact absurd h9 (by have := HR64.out; omega)
  have BS6 := Lib.hid ((BS5.out.on hb).alloc TL #[.slice PR (n + 1) kr])
  have HPR := Lib.hid ((show Pw w6 PR n r from ⟨GR, hPR, heR⟩).below (bl_al (.cells #[.slice PR (n + 1) kr] TL)))
  have HPA6 := Lib.hid ((HPA.out.below hb).below (bl_al (.cells #[.slice PR (n + 1) kr] TL)))
  have HPD6 := Lib.hid ((HPD5.out.below hb).below (bl_al (.cells #[.slice PR (n + 1) kr] TL)))
  clear hb qr qn lb ln hPR heR BQ5 BS5 HPA HPD5 HCR5
  go_wp2_with fail
  refine (of_new 0 (by omega) _).mono ?_
  rintro e w7 ⟨Dz, cz', rfl, _, hcz, hfz, hb⟩
  obtain ⟨l0, hl0⟩ : ∃ l, l = L32 0 := ⟨_, rfl⟩
  rw [← hl0] at hcz ⊢
  have bs7 := (BS6.out.on hb).alloc TN #[.slice Dz l0 cz']
  have HL0 : Hid (l0 = L32 (st n a r k 0)) := Lib.hid (by rw [hl0, st])
  have HCZ : Hid (Cells (w7.alloc (.cells #[.slice Dz l0 cz'] TN)) Dz l0 (Lm (d32 (st n a r k 0)))) := Lib.hid (by rw [st]; exact hcz.alloc _)
  have HPR7 := Lib.hid (HPR.out.below hb)
  have HPA7 := Lib.hid (HPA6.out.below hb)
  have HPD7 := Lib.hid (HPD6.out.below hb)
  obtain ⟨wa, hwa⟩ : ∃ wa, wa = w7.alloc (.cells #[.slice Dz l0 cz'] TN) := ⟨_, rfl⟩
  obtain ⟨sb, hsb⟩ : ∃ b, b = w7.heap.size := ⟨_, rfl⟩
  obtain ⟨mb, hmb⟩ : ∃ b, b = w6.heap.size := ⟨_, rfl⟩
  obtain ⟨hb', hhb⟩ : ∃ b, b = w5.heap.size := ⟨_, rfl⟩
  have g1 := ((BS6.out.on hb).get (.head _)).2.1
  have g2 := ((BS6.out.on hb).get (.tail _ (.head _))).2.1
  have g3 := ((BS6.out.on hb).get (.tail _ (.tail _ (.head _)))).2.1
  have g4 := ((BS6.out.on hb).get (.tail _ (.tail _ (.tail _ (.head _))))).2.1
  have g5 := ((BS6.out.on hb).get (.tail _ (.tail _ (.tail _ (.tail _ (.head _)))))).2.1
  have g6 := ((BS6.out.on hb).get (.tail _ (.tail _ (.tail _ (.tail _ (.tail _ (.head _))))))).2.1
  have s1 : mb < sb := by omega
  have s2 : hb' < sb := by omega
  have s3 : z < sb := by omega
  have s4 : fb < sb := by omega
  have s5 : nb < sb := by omega
  have HBW : Hid (Below w7.heap.size w7 (w7.alloc (.cells #[.slice Dz l0 cz'] TN))) := Lib.hid (bl_al _)
  have hsw : w7.heap.size ≤ sb := by omega
  have hz7 : z < w7.heap.size := g4
  rw [← hwa] at bs7 HCZ HBW
  rw [← hsb, ← hmb, ← hhb] at bs7
  have BS7 := Lib.hid (bs7.sub (l' := [(sb, TN, #[.slice Dz l0 cz']), (mb, TL, #[.slice PR (n + 1) kr]), (hb', TL, #[.slice PA (n + 1) ka]), (z, TF, #[.slice none 0 0, .slice none 0 0]), (nb, TI, #[.int .i64 (n : Int)])]) (fun x hx => by
    simp only [List.mem_cons, List.not_mem_nil, or_false] at hx ⊢
    rcases hx with h | h | h | h | h <;> simp [h]))
  clear hb hl0 hcz hfz bs7 BS6 HPR HPA6 HPD6 g1 g2 g3 g4 g5 g6
  go_wp2
  change Code.wp _ _ _ _ (w7.alloc (.cells #[.slice Dz l0 cz'] TN))
  rw [← hwa]
  rw [show (Value.pointer (some ⟨w7.heap.size, 0, none⟩)) = .pointer (some ⟨sb, 0, none⟩) by rw [hsb], show (Value.pointer (some ⟨w6.heap.size, 0, none⟩)) = .pointer (some ⟨mb, 0, none⟩) by rw [hmb], show (Value.pointer (some ⟨w5.heap.size, 0, none⟩)) = .pointer (some ⟨hb', 0, none⟩) by rw [hhb]]
  clear hwa hsb hmb hhb
  go_loopw [15] (fun s15 wr => ∃ (i j : Nat) (Dn : Option Addr) (l e : Nat), i ≤ n - k + 1 ∧ Hid (j = k + i) ∧ s15 = .int .i64 (j : Int) ∧ Hid (l = L32 (st n a r k i)) ∧ Hid (Cells wr Dn l (Lm (d32 (st n a r k i)))) ∧ Hid (Below w7.heap.size w7 wr) ∧ Hid (Bs w wr [(sb, TN, #[.slice Dn l e]), (mb, TL, #[.slice PR (n + 1) kr]), (hb', TL, #[.slice PA (n + 1) ka]), (z, TF, #[.slice none 0 0, .slice none 0 0]), (nb, TI, #[.int .i64 (n : Int)])])) (fun s _ => n + 1 - (intOf s).toNat)
  case atStart => exact ⟨0, k, Dz, l0, cz', Nat.zero_le _, Lib.hid rfl, rfl, HL0, HCZ, HBW, BS7⟩
  case round =>
    clear HL0 HCZ HBW BS7
    obtain ⟨i, j, Dn, l, e, hi, HJ, rfl, HL, HC, HBW, HBS⟩ := hrel
    have hj : j = k + i := HJ.out
    have qn : wr.cell? ⟨nb, 0, none⟩ = some (.int .i64 (n : Int)) := (HBS.out.get (.tail _ (.tail _ (.tail _ (.tail _ (.head _)))))).2.2.cell 0
    have ln := (HBS.out.get (.tail _ (.tail _ (.tail _ (.tail _ (.head _)))))).2.1
    have l64 : l ≤ 64 := by rw [HL.out]; exact HS.out i hi
    by_cases hjn : j ≤ n
    · have hjn2 : ((j : Int) ≤ (n : Int)) := by omega
      have hT := HT.out j hjn
      have t64 := hT.2.2.2.2
      have HSN := Lib.hid (HS.out (i + 1) (by omega))
      have HST : Hid (st n a r k i + tm n a r j = st n a r k (i + 1)) := Lib.hid (by rw [st, hj])
      have HIN := Lib.hid (show i + 1 ≤ n - k + 1 by omega)
      have HJN := Lib.hid hjn
      have hw5 : IntKind.i64.wrap ((j : Int) + 1) = (j : Int) + 1 := IntWalk.i64_in _ (by omega)
      obtain ⟨tt, htt⟩ : ∃ t, t = tm n a r j := ⟨_, rfl⟩
      have HTT := Lib.hid htt
      have HTA := Lib.hid hT
      rw [← htt] at t64 HST
      have T64 := Lib.hid t64
      clear hT t64 htt hj hjn hi
      go_wp2_with fail
      refine (tterm_any (n := n) (a := a) (r := r) (j := j) (nb := nb) (hb := hb') (mb := mb) hn HJN.out (HBS.out.get (.tail _ (.tail _ (.tail _ (.tail _ (.head _)))))).2.2 (HBS.out.get (.tail _ (.tail _ (.head _)))).2.2 (HBS.out.get (.tail _ (.head _))).2.2 (HPA7.out.below HBW.out) (HPR7.out.below HBW.out) HTA.out.1 HTA.out.2.1 HTA.out.2.2.1 HTA.out.2.2.2.1 HTA.out.2.2.2.2).mono ?_
      rintro e8 w8 ⟨⟨Dt, lt, ct, rfl, hlt, hct, hft⟩, hb⟩
      rw [← HTT.out] at hlt hct
      have BQ := Lib.hid (HBS.out.on hb)
      have BS8 := Lib.hid (BQ.out.alloc TN #[.slice Dt lt ct])
      have HCT := Lib.hid (hct.alloc (.cells #[.slice Dt lt ct] TN))
      have HLT := Lib.hid hlt
      have lt64 : lt ≤ 64 := by rw [hlt]; exact T64.out
      have HC8 := Lib.hid ((HC.out.below hb).alloc (.cells #[.slice Dt lt ct] TN))
      have HB8 := Lib.hid (Below.on HBW.out (Below.on hb (bl_al (.cells #[.slice Dt lt ct] TN))))
      obtain ⟨_, ls, ks⟩ := BQ.out.get (.head _)
      have qs : w8.cell? ⟨sb, 0, none⟩ = some (.slice Dn l e) := ks.cell 0
      clear hb hlt hct hft ks HC HBW HBS qn ln
      go_wp2_with fail
      refine (add_any (x := st n a r k i) (y := tt) l64 lt64 HL.out HLT.out HC8.out HCT.out).mono ?_
      rintro e9 w9 ⟨hr, hb⟩
      rw [HST.out] at hr
      rcases hr with ⟨_, Ds, cs, rfl, _, hcs, hfs⟩ | ⟨h9, _⟩
      case inr => exact absurd h9 (by have := HSN.out; omega)
      obtain ⟨ls', hls⟩ : ∃ l, l = L32 (st n a r k (i + 1)) := ⟨_, rfl⟩
      rw [← hls] at hcs ⊢
      have HLS := Lib.hid hls
      have BS9 := Lib.hid (BS8.out.on hb)
      have AP := Lib.hid (show Apart sb Ds from Apart.of_fresh hfs (BS8.out.get (.tail _ (.head _))).2.1)
      have HCS := Lib.hid hcs
      have HB9 := Lib.hid (Below.on HB8.out hb)
      clear hb hls hcs hfs qs ls BS8 BQ HC8 HCT HB8
      obtain ⟨_, ls, ks⟩ := BS9.out.get (.tail _ (.head _))
      have qs : w9.cell? ⟨sb, 0, none⟩ = some (.slice Dn l e) := ks.cell 0
      have fs : w9.frozen? ⟨sb, 0, none⟩ = false := ks.frozen 0
      clear ks
      unfold natv
      go_wp2
      go_roundw
      case rel =>
        refine ⟨i + 1, j + 1, Ds, ls', cs, HIN.out, Lib.hid (by rw [HJ.out]; omega), by go_num, HLS, ?_, ?_, ?_⟩
        · exact Lib.hid (HCS.out.apart AP.out 0 _)
        · exact Lib.hid (bse HB9.out hsw _ _)
        · refine Lib.hid (Bs.put (cs := #[.slice Dn l e]) (BS9.out.sub fun x hx => .tail _ hx) ?_ 0 _)
          intro b' t' cs' hb
          simp at hb
          omega
      case measure => have := HJN.out; simp [intOf] <;> omega
    · have hjn2 : ((j : Int) ≤ (n : Int)) = False := eq_false (by omega)
      obtain rfl : i = n - k + 1 := by omega
      rw [← HSS.out] at HL HC
      obtain ⟨GD, hcD, heD⟩ := HPD7.out.below HBW.out
      obtain ⟨b1, o1, hP1, hlt1, hc1⟩ := cells_at hcD (k := n) (by omega)
      obtain ⟨Dx, lx, cx, hGx, hlx, hcx⟩ := heD n (Nat.le_refl n)
      rw [hGx] at hc1
      subst hP1
      have HLX := Lib.hid hlx
      have HCX := Lib.hid hcx
      have lx64 : lx ≤ 64 := by rw [hlx]; exact HD64.out
      have C1 := Lib.hid hc1
      have T1 := Lib.hid hlt1
      have HMK : Hid (∀ w', Below wr.heap.size wr w' → Calls Try.prog 57 #[.agg #[.slice Dn l e], .agg #[.slice Dx lx cx]] w' fun e w'' => (∃ Da la ca Db lb' cb', e = .returned (.tuple #[.agg #[.slice Da la ca, .slice Db lb' cb'], .int .i64 0]) ∧ Hid (la = L32 qa) ∧ Hid (lb' = L32 qb) ∧ la ≤ ca ∧ lb' ≤ cb' ∧ Cells w'' Da la (Lm (d32 qa)) ∧ Cells w'' Db lb' (Lm (d32 qb)) ∧ Fresh w'.heap.size Da ∧ Fresh w'.heap.size Db) ∧ Below w'.heap.size w' w'' ∧ Below wr.heap.size wr w'') := Lib.hid fun w' hw => by
        refine (make_any (x := S) (y := d ^ n) l64 lx64 HL.out HLX.out (HC.out.below hw) (HCX.out.below hw) HD0.out).mono ?_
        rintro e w'' ⟨⟨Da, ca, Db, cb', rfl, hla, hlb, hca, hcb, hfa, hfb⟩, hb⟩
        rw [← HQA.out] at hla hca ⊢
        rw [← HQB.out] at hlb hcb ⊢
        exact ⟨⟨Da, _, ca, Db, _, cb', rfl, Lib.hid rfl, Lib.hid rfl, hla, hlb, hca, hcb, hfa, hfb⟩, hb, Below.on hw hb⟩
      have HALL : Hid (∀ w', Below wr.heap.size wr w' → w'.cell? ⟨sb, 0, none⟩ = some (.slice Dn l e) ∧ w'.cell? ⟨nb, 0, none⟩ = some (.int .i64 (n : Int)) ∧ w'.cell? ⟨b1, o1 + n, none⟩ = some (.slice Dx lx cx)) := Lib.hid fun w' hw =>
        ⟨((HBS.out.on hw).get (.head _)).2.2.cell 0, ((HBS.out.on hw).get (.tail _ (.tail _ (.tail _ (.tail _ (.head _)))))).2.2.cell 0, ((bcell hw).1 _ _ T1.out).trans C1.out⟩
      have A0 : Below wr.heap.size wr wr.drew := (Below.refl _ _).drew
      have i1 : (0 : Int) ≤ (n : Int) := by omega
      have i2 : (n : Int) < ((n + 1 : Nat) : Int) := by omega
      have i3 : (n : Int) < (n : Int) + 1 := by omega
      have n1 : sb ≠ z := by omega
      have n2 : nb ≠ z := hnz
      have n3 : b1 ≠ z := APZ.out _ rfl
      clear hcD heD hlt1 hc1 hGx hlx hcx hj hjn HJ hi
      go_upto_region 30 with (fail)
      go_region_held3 (fun w' => w'.cell? ⟨sb, 0, none⟩ = some (.slice Dn l e) ∧ w'.cell? ⟨nb, 0, none⟩ = some (.int .i64 (n : Int)) ∧ w'.cell? ⟨b1, o1 + n, none⟩ = some (.slice Dx lx cx))
        (first
          | exact ⟨cell_put (cell_put h8.1 n1) n1, cell_put (cell_put h8.2.1 n2) n2, cell_put (cell_put h8.2.2 n3) n3⟩
          | exact ⟨cell_put h8.1 n1, cell_put h8.2.1 n2, cell_put h8.2.2 n3⟩
          | exact HALL.out _ (by assumption))
        (first
          | (go_at_call 57; (with_reducible refine (HMK.out _ ?_).mono ?_); (first | assumption); rintro e6 w8 ⟨⟨Da, la, ca, Db, lb', cb', rfl, hla, hlb, hl1, hl2, hca, hcb, hfa, hfb⟩, hb6, t6⟩; have h8 := HALL.out _ t6; have g6 : w8.cell? ⟨z, 0, none⟩ = some (.slice none 0 0) := ((HBS.out.on t6).get (.tail _ (.tail _ (.tail _ (.head _))))).2.2.cell 0; have g7 : w8.cell? ⟨z, 1, none⟩ = some (.slice none 0 0) := ((HBS.out.on t6).get (.tail _ (.tail _ (.tail _ (.head _))))).2.2.cell 1; have h6 : w8.frozen? ⟨z, 0, none⟩ = false := ((HBS.out.on t6).get (.tail _ (.tail _ (.tail _ (.head _))))).2.2.frozen 0; have h7 : w8.frozen? ⟨z, 1, none⟩ = false := ((HBS.out.on t6).get (.tail _ (.tail _ (.tail _ (.head _))))).2.2.frozen 1)
          | fail)
      all_goals
        have HB6 := Lib.hid (HBS.out.on t6).below
        have LZ := Lib.hid (Nat.lt_of_lt_of_le (HBS.out.get (.tail _ (.tail _ (.tail _ (.head _))))).2.1 A0.size)
        have LW := Lib.hid HBS.out.below.size
        go_wp2
        refine bodyPost_ret (v := .tuple #[.agg #[.slice Da la ca, .slice Db lb' cb'], .int .i64 0]) (by simp [results, Try.results20, go_sem, g6, g7]) rfl ?_
        refine ⟨⟨Da, ca, Db, cb', by rw [← hla.out, ← hlb.out]; rfl, by rw [← hla.out]; exact hl1, by rw [← hlb.out]; exact hl2, ?_, ?_, hfa.mono (Nat.le_trans LW.out (by simp)), hfb.mono (Nat.le_trans LW.out (by simp))⟩, bse (bse HB6.out hzw _ _) hzw _ _⟩
        · rw [← hla.out]
          exact (hca.set_ hfa (Nat.lt_of_lt_of_le LZ.out (by simp)) _ _).set_ hfa (Nat.lt_of_lt_of_le LZ.out (by simp)) _ _
        · rw [← hlb.out]
          exact (hcb.set_ hfb (Nat.lt_of_lt_of_le LZ.out (by simp)) _ _).set_ hfb (Nat.lt_of_lt_of_le LZ.out (by simp)) _ _
end Fa
end Go.Proofs.Ytiflmnmkmpjecaa
