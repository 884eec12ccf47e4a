/- The walks of fairness.powers and product. -/
import Derived.Test.YtiflmnmkmpjecaaFaRuns
set_option linter.unusedVariables false
namespace Go.Proofs.Ytiflmnmkmpjecaa
open Go.RowKit
namespace Fa
open Fr
theorem Try.infoN : (Try.prog.info? 32).map (fun i => (i.zero, i.size, i.bytes)) = some (some (.agg #[.slice none 0 0]), 1, 24) := by kernel_rfl
/-- The value of a number. -/
def El (w : World) (v : Value) (A : Nat) : Prop := ∃ D l c, v = .slice D l c ∧ l = L32 A ∧ Cells w D l (Lm (d32 A))
theorem El.below {w w' : World} {v : Value} {A : Nat} (h : El w v A) (hb : Below w.heap.size w w') : El w' v A := by
  obtain ⟨D, l, c, e, hl, hc⟩ := h
  exact ⟨D, l, c, e, hl, hc.below hb⟩
/-- The value of a number that lies off the blocks g and p. -/
def Ela (g p : Nat) (w : World) (v : Value) (A : Nat) : Prop := ∃ D l c, v = .slice D l c ∧ l = L32 A ∧ Cells w D l (Lm (d32 A)) ∧ (0 < l → Apart g D ∧ Apart p D)
theorem Ela.below {g p : Nat} {w w' : World} {v : Value} {A : Nat} (h : Ela g p w v A) (hb : Below w.heap.size w w') : Ela g p w' v A := by
  obtain ⟨D, l, c, e, hl, hc, ha⟩ := h
  exact ⟨D, l, c, e, hl, hc.below hb, ha⟩
theorem Ela.grown {g p : Nat} {w w' : World} {v : Value} {A : Nat} (h : Ela g p w v A) (hb : w.grownBy w' (some g)) : Ela g p w' v A := by
  obtain ⟨D, l, c, e, hl, hc, ha⟩ := h
  exact ⟨D, l, c, e, hl, fun h0 => (hc.grown (ha h0).1 hb) h0, ha⟩
theorem Ela.put {g p : Nat} {w : World} {v : Value} {A : Nat} (h : Ela g p w v A) (i : Nat) (u : Value) : Ela g p (w.setCell ⟨p, i, none⟩ u) v A := by
  obtain ⟨D, l, c, e, hl, hc, ha⟩ := h
  exact ⟨D, l, c, e, hl, fun h0 => (hc.apart (ha h0).2 i u) h0, ha⟩
theorem Ela.el {g p : Nat} {w : World} {v : Value} {A : Nat} (h : Ela g p w v A) : El w v A := by
  obtain ⟨D, l, c, e, hl, hc, ha⟩ := h
  exact ⟨D, l, c, e, hl, hc⟩
theorem bl_al {w : World} (o : Obj) : Below w.heap.size w (w.alloc o) := (Below.refl _ _).alloc (Nat.le_refl _) o
theorem Bs.grown {w0 w w' : World} {l : List (Nat × TypeId × Array Value)} {g : Nat} (h : Bs w0 w l) (hg : w.grownBy w' (some g)) (hw : w0.heap.size ≤ g) (hne : ∀ b t cs, (b, t, cs) ∈ l → b ≠ g) : Bs w0 w' l :=
  ⟨h.below.grown hg h.below.size (fun k hk => by injection hk with hk; omega), fun b t cs hb => ⟨(h.blk b t cs hb).1, (h.blk b t cs hb).2.grown hg (by intro e; injection e with e; exact hne b t cs hb e)⟩⟩
theorem own_set' {B h : Nat} {w : World} {e : TypeId} {size : Nat} {v : Value} {n : Nat} {xs : List Value} (hown : w.ownsRow B e size v n xs) (hne : v.ownBlock ≠ some h) (i : Nat) (u : Value) : (w.setCell ⟨h, i, none⟩ u).ownsRow B e size v n xs :=
  hown.kept (only_set (only_refl w h) i u) (.inr hne)
theorem pow_len {a i n : Nat} (h : i ≤ n) (h64 : 64 < L32 (a ^ i)) : 64 < L32 (a ^ n) := by
  rcases Nat.eq_zero_or_pos a with e | e
  · subst e
    rcases Nat.eq_zero_or_pos i with e | e
    · subst e
      have : L32 (0 ^ 0) ≤ 1 := fit32_le (n := 1) (by unfold Fit32; decide)
      omega
    · rw [Nat.zero_pow e, L32_zero.2 rfl] at h64
      omega
  · exact Nat.lt_of_lt_of_le h64 (Nt.len_mono (by omega) (Nat.pow_le_pow_right e h))
def upd1 (G : Nat → Value) (j : Nat) (v : Value) : Nat → Value := fun i => if i = j then v else G i
theorem row_upd (G : Nat → Value) (j : Nat) (v : Value) : row ((j + 1) * 1) (upd1 G j v) = row (j * 1) G ++ [v] := by
  rw [Nat.mul_one, Nat.mul_one, row_one]
  congr 1
  · exact row_congr fun i hi => by unfold upd1; rw [if_neg (by omega)]
  · unfold upd1; rw [if_pos rfl]
set_option maxHeartbeats 8000000 in
set_option maxRecDepth 100000 in
theorem powers_any {D : Option Addr} {l c a n : Nat} {w : World} (hl : l ≤ 64) (hla : l = L32 a) (hD : Cells w D l (Lm (d32 a))) (hn : n ≤ 64) :
    Calls Try.prog 50 #[.agg #[.slice D l c], .int .i64 (n : Int)] w fun e w' => ((L32 (a ^ n) ≤ 64 ∧ ∃ P k G, e = .returned (.tuple #[.slice P (n + 1) k, .int .i64 0]) ∧ Cells w' P (n + 1) G ∧ (∀ i, i ≤ n → El w' (G i) (a ^ i)) ∧ Fresh w.heap.size P) ∨ (64 < L32 (a ^ n) ∧ e = .returned (.tuple #[.slice none 0 0, .int .i64 9]))) ∧ Below w.heap.size w w' := by
  obtain ⟨i0, hi, hz0, hz1, hz2⟩ := info_parts Try.infoN
  have BS0 := Lib.hid (box1z w (.slice D l c))
  have HLA := Lib.hid hla
  have HD := Lib.hid hD
  have hw1 : IntKind.i64.wrap ((n : Int) + 1) = ((n + 1 : Nat) : Int) := by rw [IntWalk.i64_in _ (by omega)]; rfl
  clear hla hD
  go_enter Try.func50, Try.ntmps50
  go_wp2_with (at_make; refine wpList_make_own _ rfl _ _ 74 rfl (w.heap.size + 1) 32 i0 (.agg #[.slice none 0 0]) 1 Try.underlying74 hi hz0 hz1 _ _ _ (n + 1) rfl rfl rfl ?c1 ?c2 ?c3 ?_)
  case c1 => rw [hz2]; omega
  case c2 => unfold maxLen; omega
  case c3 => simp
  intro w1 hown1 hgr1
  obtain ⟨g, hg⟩ : ∃ g, g = w.heap.size + 1 := ⟨_, rfl⟩
  have hgw : w.heap.size ≤ g := by omega
  rw [← hg] at hown1 ⊢
  have bs1 : Bs w w1 [(w.heap.size, TN, #[.slice D l c])] := Bs.grown (g := g) BS0.out ⟨hgr1.os, hgr1.tape, hgr1.output, hgr1.size, fun k hk _ => hgr1.block k hk (by simp)⟩ hgw (fun b t cs hb => by simp at hb; omega)
  have hgl := (hown1.lt _ rfl).2
  have HO1 := Lib.hid hown1
  obtain ⟨ab, hab⟩ : ∃ z, z = w.heap.size := ⟨_, rfl⟩
  have hag : ab ≠ g := by omega
  rw [← hab] at bs1
  have BS1 := Lib.hid bs1
  rw [show (Value.pointer (some ⟨w.heap.size, 0, none⟩)) = .pointer (some ⟨ab, 0, none⟩) by rw [hab]]
  clear hg hgr1 bs1 hab BS0
  go_wp2_with fail
  refine (of_new 1 (by omega) _).mono ?_
  rintro e w2 ⟨D0, c0, rfl, _, hc0, hf0, hb2⟩
  have BQ := BS1.out.on hb2
  have bs2 := BQ.alloc TN #[.slice D0 (L32 1) c0]
  have HO2 := Lib.hid (own_keep (own_keep HO1.out hb2) ((Below.refl _ _).alloc (Nat.le_refl _) (.cells #[.slice D0 (L32 1) c0] TN)))
  obtain ⟨wa, hwa⟩ : ∃ wa, wa = w2.alloc (.cells #[.slice D0 (L32 1) c0] TN) := ⟨_, rfl⟩
  obtain ⟨l0, hl0⟩ : ∃ l, l = L32 1 := ⟨_, rfl⟩
  obtain ⟨pb, hpb⟩ : ∃ b, b = w2.heap.size := ⟨_, rfl⟩
  have hpg : pb ≠ g := by have := hb2.size; omega
  have hap : ab ≠ pb := by have := (BQ.get (.head _)).2.1; omega
  have hpw : w.heap.size ≤ pb := by have := BQ.below.size; omega
  rw [← hl0] at bs2 HO2 hwa hc0 ⊢
  have HL0 : Hid (l0 = L32 (a ^ 0)) := Lib.hid (by rw [hl0, Nat.pow_zero])
  have HC0 : Hid (Cells (w2.alloc (.cells #[.slice D0 l0 c0] TN)) D0 l0 (Lm (d32 (a ^ 0)))) := Lib.hid (by rw [Nat.pow_zero]; exact hc0.alloc _)
  have HA0 : Hid (0 < l0 → Apart g D0 ∧ Apart pb D0) := Lib.hid (fun h0 => ⟨Apart.of_fresh hf0 hgl, fun d hd => by
    obtain ⟨b, o, e, hlt, _⟩ := hc0 h0
    rw [hd] at e
    injection e with e
    subst e
    show b ≠ pb
    omega⟩)
  have H640 : Hid (L32 (a ^ 0) ≤ 64) := Lib.hid (by rw [Nat.pow_zero]; exact Nat.le_trans (fit32_le (N := 1) (n := 1) (by unfold Fit32; decide)) (by omega))
  rw [← hwa] at bs2 HO2 HC0
  rw [← hpb] at bs2
  have hgl2 : g < wa.heap.size := by rw [hwa, World.size_alloc]; have := hb2.size; omega
  have BS2 := Lib.hid bs2
  clear hc0 hf0 hb2 BQ bs2 HO1 BS1 hgl hown1 hl0
  go_wp2
  change Code.wp _ _ _ _ (w2.alloc (.cells #[.slice D0 l0 c0] TN))
  rw [← hwa]
  rw [show (Value.pointer (some ⟨w2.heap.size, 0, none⟩)) = .pointer (some ⟨pb, 0, none⟩) by rw [hpb]]
  clear hwa hpb
  go_loopw [8, 6] (fun s8 s6 wr => ∃ (j : Nat) (G : Nat → Value) (Dp : Option Addr) (lp cp : Nat), j ≤ n ∧ s8 = .int .i64 (j : Int) ∧ s6 = .slice (some ⟨g, 0, none⟩) j (n + 1) ∧ Hid (wr.ownsRow g TN 1 (.slice (some ⟨g, 0, none⟩) j (n + 1)) j (row (j * 1) G)) ∧ Hid (∀ i, i < j → Ela g pb wr (G i) (a ^ i)) ∧ Hid (lp = L32 (a ^ j)) ∧ Hid (Cells wr Dp lp (Lm (d32 (a ^ j)))) ∧ Hid (0 < lp → Apart g Dp ∧ Apart pb Dp) ∧ Hid (L32 (a ^ j) ≤ 64) ∧ Hid (Bs w wr [(pb, TN, #[.slice Dp lp cp]), (ab, TN, #[.slice D l c])]) ∧ g < wr.heap.size) (fun i _ _ => n + 1 - (intOf i).toNat)
  case atStart => exact ⟨0, fun _ => .int .i64 0, D0, l0, c0, Nat.zero_le _, rfl, rfl, HO2, Lib.hid (fun i hi => by omega), HL0, HC0, HA0, H640, BS2, hgl2⟩
  case round =>
    clear HO2 HL0 HC0 HA0 H640 BS2 hgl2
    obtain ⟨j, G, Dp, lp, cp, hj, rfl, rfl, HO, HG, HLP, HCP, HAP, H64, HBS, hgl⟩ := hrel
    have qp : wr.cell? ⟨pb, 0, none⟩ = some (.slice Dp lp cp) := (HBS.out.get (.head _)).2.2.cell 0
    have lpb := (HBS.out.get (.head _)).2.1
    go_wp2_with (at_builtin; refine wpList_append_fits _ rfl _ _ 74 rfl g TN i0 1 Try.underlying74 hi hz1 g j (n + 1) (row (j * 1) G) rfl (own_keep HO.out ((Below.refl _ _).alloc (Nat.le_refl _) _)) ⟨wr.heap.size, 0, none⟩ 1 1 [.slice Dp lp cp] rfl rfl ?d1 ?d2 ?d3 ?_)
    case d1 => exact fun i u hu => new_cell rfl (by simpa using hu)
    case d2 => intro u hu; simp at hu; subst hu; rfl
    case d3 => omega
    intro w3 hown3 hgr3
    have HO3 : Hid (w3.ownsRow g TN 1 (.slice (some ⟨g, 0, none⟩) (j + 1) (n + 1)) (j + 1) (row ((j + 1) * 1) (upd1 G j (.slice Dp lp cp)))) := Lib.hid (by rw [row_upd, Nat.mul_one]; exact hown3)
    have HG3 : Hid (∀ i, i < j + 1 → Ela g pb w3 (upd1 G j (.slice Dp lp cp) i) (a ^ i)) := Lib.hid fun i hi => by
      unfold upd1
      by_cases e : i = j
      · rw [if_pos e, e]
        exact Ela.grown ⟨Dp, lp, cp, rfl, HLP.out, HCP.out.alloc _, HAP.out⟩ hgr3
      · rw [if_neg e]
        exact ((HG.out i (by omega)).below (bl_al _)).grown hgr3
    have HCP3 : Hid (Cells w3 Dp lp (Lm (d32 (a ^ j)))) := Lib.hid fun h0 => ((HCP.out.alloc _).grown (HAP.out h0).1 hgr3) h0
    have BS3 : Hid (Bs w w3 [(pb, TN, #[.slice Dp lp cp]), (ab, TN, #[.slice D l c])]) := Lib.hid (Bs.grown (HBS.out.on (bl_al _)) hgr3 hgw fun b t cs hb => by simp at hb; omega)
    have hgl3 : g < w3.heap.size := by have := hgr3.size; simp at this; omega
    clear hown3 hgr3 HO HG HCP HBS qp lpb
    by_cases hjn : j = n
    · subst hjn
      have e0 : ((j : Int) == (j : Int)) = true := by simp
      have HC := Lib.hid (Cells.of_own HO3.out)
      have HB := Lib.hid BS3.out.below
      clear BS3
      go_wp2
      go_ret2
      exact ⟨.inl ⟨H64.out, _, _, _, rfl, by rw [← Nat.mul_one (j + 1)]; exact HC.out, fun i hi => (HG3.out i (by omega)).el, fun d hd => by injection hd with hd; subst hd; exact hgw⟩, HB.out⟩
    · have e0 : ((j : Int) == (n : Int)) = false := by simp; omega
      have e1 : (j == n) = false := by simp; omega
      have hjn2 : j < n := by omega
      have HJN := Lib.hid hjn2
      have lp64 : lp ≤ 64 := by rw [HLP.out]; exact H64.out
      obtain ⟨_, la, ka⟩ := BS3.out.get (.tail _ (.head _))
      obtain ⟨_, lb, kb⟩ := BS3.out.get (.head _)
      have qa : w3.cell? ⟨ab, 0, none⟩ = some (.slice D l c) := ka.cell 0
      have qb : w3.cell? ⟨pb, 0, none⟩ = some (.slice Dp lp cp) := kb.cell 0
      clear ka kb hjn hjn2
      go_wp2_with fail
      refine (mul_any (x := a ^ j) (y := a) lp64 hl HLP.out HLA.out HCP3.out (HD.out.below BS3.out.below)).mono ?_
      rintro e w4 ⟨hr, hb⟩
      have BS4 := Lib.hid (BS3.out.on hb)
      have HO4 := Lib.hid (own_keep HO3.out hb)
      have HG4 := Lib.hid (fun i hi => (HG3.out i hi).below hb)
      have hgl4 : g < w4.heap.size := by have := hb.size; omega
      have HPW : Hid (a ^ j * a = a ^ (j + 1)) := Lib.hid (Nat.pow_succ a j).symm
      have hs3 := (BS3.out.get (.head _)).2.1
      rw [HPW.out] at hr
      clear qa qb la lb
      rcases hr with ⟨h64, Dn, cn, rfl, _, hcn, hfn⟩ | ⟨h64, rfl⟩
      · obtain ⟨ln, hln⟩ : ∃ l, l = L32 (a ^ (j + 1)) := ⟨_, rfl⟩
        rw [← hln] at hcn ⊢
        have HLN := Lib.hid hln
        have H64N := Lib.hid h64
        have HAN : Hid (0 < ln → Apart g Dn ∧ Apart pb Dn) := Lib.hid fun _ => ⟨Apart.of_fresh hfn hgl3, Apart.of_fresh hfn hs3⟩
        have HCN := Lib.hid hcn
        obtain ⟨_, lb, kb⟩ := BS4.out.get (.head _)
        have qb : w4.cell? ⟨pb, 0, none⟩ = some (.slice Dp lp cp) := kb.cell 0
        have fb : w4.frozen? ⟨pb, 0, none⟩ = false := kb.frozen 0
        clear kb hln hcn hfn hb BS3 HO3 HG3 HCP3 h64
        unfold natv
        go_wp2
        go_roundw
        case rel =>
          refine ⟨j + 1, upd1 G j (.slice Dp lp cp), Dn, ln, cn, HJN.out, by go_num, rfl, ?_, ?_, HLN, ?_, HAN, H64N, ?_, ?_⟩
          · exact Lib.hid (own_keep (own_set' HO4.out (fun e => by have e2 : some g = some pb := e; injection e2 with e2; exact hpg e2.symm) 0 _) (bl_al _))
          · exact Lib.hid (fun i hi => ((HG4.out i hi).put 0 _).below (bl_al _))
          · exact Lib.hid fun h0 => ((HCN.out.apart (HAN.out h0).2 0 _).alloc _) h0
          · refine Lib.hid (((Bs.put (cs := #[.slice Dp lp cp]) BS4.out ?_ 0 _).alloc _ _).sub fun x hx => .tail _ hx)
            intro b' t' cs' hb
            simp at hb
            omega
          · have := hgl4; simp; omega
        case measure => have := HJN.out; simp [intOf] <;> omega
      · have HN := Lib.hid (pow_len (n := n) HJN.out h64)
        have HB := Lib.hid BS4.out.below
        clear h64 hb
        unfold natv
        go_wp2
        go_ret2
        exact ⟨.inr ⟨HN.out, rfl⟩, HB.out.alloc HB.out.size _⟩
end Fa
end Go.Proofs.Ytiflmnmkmpjecaa
