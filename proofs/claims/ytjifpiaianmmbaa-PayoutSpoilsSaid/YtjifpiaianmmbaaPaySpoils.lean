/- The walk of the law PayoutSpoils. -/
import Derived.Test.YtjifpiaianmmbaaPayLooks
import Derived.Test.YtjifpiaianmmbaaPayTrue
import Derived.Test.YtjifpiaianmmbaaPayFew
import Derived.Test.YtjifpiaianmmbaaPayLawsA
import Derived.Test.YtjifpiaianmmbaaBox
import Derived.Deep.CutRange
import Derived.Deep.DeepCutAuto
set_option linter.unusedVariables false
namespace Go.Proofs.Ytjifpiaianmmbaa
open Go.RowKit

theorem bl_alloc {a w : World} (h : Below a.heap.size a w) (o : Obj) : Below a.heap.size a (w.alloc o) := h.alloc h.size o
theorem bl_drew {a w : World} (h : Below a.heap.size a w) : Below a.heap.size a w.drew := h.drew
theorem Box.all {W w : World} {g t : Int} {s : Value} {l : Int} (h : Box W w g t s l) : w.cell? ⟨W.heap.size, 0, none⟩ = some (.int .i64 g) ∧ w.cell? ⟨W.heap.size, 1, none⟩ = some (.int .i64 t) ∧ w.cell? ⟨W.heap.size, 2, none⟩ = some s ∧ w.cell? ⟨W.heap.size, 3, none⟩ = some (.int .i64 l) ∧ Box W w g t s l := ⟨h.c0, h.c1, h.c2, h.c3, h⟩
theorem Box.alloc {W w : World} {g t : Int} {s : Value} {l : Int} (h : Box W w g t s l) (o : Obj) : Box W (w.alloc o) g t s l := h.on ((Below.refl _ _).alloc (Nat.le_refl _) _)
theorem Box.set_ {W w : World} {g t : Int} {s : Value} {l : Int} (h : Box W w g t s l) {b : Nat} (hb : W.heap.size < b) (i : Nat) (u : Value) : Box W (w.setCell ⟨b, i, none⟩ u) g t s l := by
  have hne : ∀ o : Nat, (⟨b, i, none⟩ : Addr) ≠ ⟨W.heap.size, o, none⟩ := fun o e => by injection e with e1; omega
  refine ⟨⟨h.bx.below.setCell (by simp; omega) _, by simpa using h.bx.more⟩, ?_, ?_, ?_, ?_⟩
  · rw [World.cell?_setCell_other _ _ _ _ (hne 0)]; exact h.c0
  · rw [World.cell?_setCell_other _ _ _ _ (hne 1)]; exact h.c1
  · rw [World.cell?_setCell_other _ _ _ _ (hne 2)]; exact h.c2
  · rw [World.cell?_setCell_other _ _ _ _ (hne 3)]; exact h.c3
theorem Blk.put4 {w : World} {g : Nat} {t : TypeId} {a0 a1 a2 a3 : Value} (h : Blk w g t #[a0, a1, a2, a3]) (u0 u1 u2 u3 : Value) : Blk ((((w.setCell ⟨g, 0, none⟩ u0).setCell ⟨g, 1, none⟩ u1).setCell ⟨g, 2, none⟩ u2).setCell ⟨g, 3, none⟩ u3) g t #[u0, u1, u2, u3] :=
  (((h.set_ 0 u0).set_ 1 u1).set_ 2 u2).set_ 3 u3
set_option maxHeartbeats 2000000 in
set_option maxRecDepth 100000 in
theorem payoutSpoils_walk (W : World) {D : Option Addr} {m0 c0 : Nat} {C0 : Nat → ByteArray} {K A : Nat → Int} (hm0 : m0 ≤ c0) (hc0 : c0 ≤ maxLen) (hD : Cells W D (m0 * 3) (Three C0 K A)) (hC0 : ∀ i, i < m0 → (C0 i).size ≤ maxLen) (hwD : ∀ i, i < m0 → (Lit.int .i64 (K i)).wf = true ∧ (Lit.int .i64 (A i)).wf = true) (g : Int) (wg : (Lit.int .u32 g).wf = true) (by_ : Int) (wb : (Lit.int .i64 by_).wf = true) :
    Calls Try.prog 8 #[.slice D m0 c0, .int .u32 g, .int .i64 by_] W fun e w' => e = .returned (.bool true) ∧ Below W.heap.size W w' := by
  unfold maxLen at hc0
  have hgr : 0 ≤ g ∧ g ≤ 4294967295 := by
    have h := wg
    simp [Lit.wf] at h
    exact h
  obtain ⟨g0, gu⟩ := hgr
  clear hwD wg wb
  go_enter Try.func8, Try.ntmps8
  go_wp2_with fail
  refine (few_any (by omega) hD hC0).mono ?_
  rintro e w1 ⟨D1, c1, m, rfl, hm, k1, hb⟩
  have hmm : m ≤ 20 := by omega
  clear hm
  obtain ⟨b1, hb1⟩ : ∃ b1 : Int, (if (2199023255552 : Int) < by_ then (2199023255552 : Int) else by_) = b1 := ⟨_, rfl⟩
  obtain ⟨b, hb2⟩ : ∃ b : Int, (if (-2199023255552 : Int) > b1 then (-2199023255552 : Int) else b1) = b := ⟨_, rfl⟩
  have hmin : ∀ w, (Builtin.min_ #[3, 3] 3 #[.int .i64 by_, .int .i64 2199023255552]).run Try.prog w = .ok (.int .i64 b1) w := fun w => by rw [run_min_int2, hb1]
  have hmax : ∀ w, (Builtin.max_ #[3, 3] 3 #[.int .i64 b1, .int .i64 (-2199023255552)]).run Try.prog w = .ok (.int .i64 b) w := fun w => by rw [run_max_int2, hb2]
  have hbl : -2199023255552 ≤ b ∧ b ≤ 2199023255552 := by
    rw [← hb2, ← hb1]; split <;> split <;> omega
  obtain ⟨bl, bh⟩ := hbl
  clear hb1 hb2
  have hB : Cells (w1.alloc (.cells #[.int .i64 100, .int .i64 2500] 42)) (some ⟨w1.heap.size, 0, none⟩) (1 * 2) (Two (fun _ => 100) (fun _ => 2500)) := by
    refine Cells.lit rfl fun j hj => ?_
    match j, hj with
    | 0, _ => rfl
    | 1, _ => rfl
  have hbB := hb.alloc hb.size (.cells #[.int .i64 100, .int .i64 2500] 42)
  have kB := k1.alloc (.cells #[.int .i64 100, .int .i64 2500] 42)
  obtain ⟨y, hy⟩ : ∃ y, y = perr 1 (fun _ => 100) (fun _ => 2500) m (fun i => cut40 (C0 i)) K A g := ⟨_, rfl⟩
  by_cases hy0 : y = 0
  · subst hy0
    obtain ⟨_, g1, he, hck⟩ := perr_zero hy.symm
    have hbd := Tx.bounds_of he
    obtain ⟨t, ht⟩ : ∃ t, Tx.val 1 (fun _ => 100) (fun _ => 2500) g = t := ⟨_, rfl⟩
    rw [ht] at hbd
    obtain ⟨t0, t1, _⟩ := hbd
    have hex := Ex.exact_pay hck g0 g1 t0 t1
    obtain ⟨l, hl⟩ : ∃ l, l = Db.left A (g - t) m := ⟨_, rfl⟩
    rw [← hl] at hex
    have HEX := Lib.hid hex
    have HE := Lib.hid he
    have HCK := Lib.hid hck
    have HT := Lib.hid ht
    have HL := Lib.hid hl
    have HBB := Lib.hid hB
    have HK := Lib.hid kB
    have Hb := Lib.hid hbB
    clear hy he hck ht hl hex hB kB hbB k1 hb
    go_wp2_with fail
    refine (pay_good (by omega) (by omega) HBB.out HK.out (fun i _ => cut40_size _) g0 g1 HT.out HE.out HCK.out t0 t1).mono ?_
    rintro e w2 ⟨D2, c2, rfl, k2, hb2, _⟩
    rw [← HL.out]
    unfold order
    have hbx : Below W.heap.size W w2 := Below.on Hb.out hb2
    have hbx0 : Box w2 (w2.alloc (.cells #[.int .i64 g, .int .i64 t, .slice D2 m c2, .int .i64 l] 27)) g t (.slice D2 m c2) l := by
      refine ⟨⟨(Below.refl w2.heap.size w2).alloc (Nat.le_refl _) _, by simp⟩, ?_, ?_, ?_, ?_⟩
      all_goals (rw [World.cell?_alloc_at _ _ _ _ rfl]; rfl)
    have Hbx := Lib.hid hbx
    have Hbox := Lib.hid hbx0
    have HK2 := Lib.hid k2
    clear hb2 hbx hbx0 k2
    by_cases hbz : b = 0
    · subst hbz
      go_wp2_with fail
      refine (works47 _).mono ?_
      rintro e w9 ⟨rfl, hb9⟩
      have hbe := Below.on (Hbx.out.alloc Hbx.out.size (.cells #[.int .i64 g, .int .i64 t, .slice D2 m c2, .int .i64 l] 27)) hb9
      clear hb9
      go_wp2
      go_ret
      exact ⟨rfl, hbe⟩
    · have hbz2 : (b == 0) = false := by simp [hbz]
      go_wp2_with fail
      have hbo := Hbox.out
      have HBS := Lib.hid (show Below W.heap.size W (w2.alloc (.cells #[.int .i64 g, .int .i64 t, .slice D2 m c2, .int .i64 l] 27)) from Hbx.out.alloc Hbx.out.size _)
      have HK3 := Lib.hid (HK2.out.alloc (.cells #[.int .i64 g, .int .i64 t, .slice D2 m c2, .int .i64 l] 27))
      have hszW : (w2.alloc (.cells #[.int .i64 g, .int .i64 t, .slice D2 m c2, .int .i64 l] 27)).heap.size = w2.heap.size + 1 := World.size_alloc _ _
      generalize w2.alloc (.cells #[.int .i64 g, .int .i64 t, .slice D2 m c2, .int .i64 l] 27) = W2 at hbo HBS HK3 hszW ⊢
      have hlt2 := hbo.bx.more
      have hsz2 : W2.heap.size = w2.heap.size + 1 := hszW
      have HSZ := Lib.hid hsz2
      have hle2 : W2.heap.size ≤ w2.heap.size + 1 := by omega
      clear hszW hsz2
      go_upto_region 6 with (fail)
      go_cut [9, 10, 11] (fun s9 s10 s11 wx => ∃ ga gb gc : Nat, s9 = .pointer (some ⟨ga, 0, none⟩) ∧ s10 = .pointer (some ⟨gb, 0, none⟩) ∧ s11 = .pointer (some ⟨gc, 0, none⟩) ∧ ga ≠ gb ∧ ga ≠ gc ∧ gb ≠ gc ∧ w2.heap.size < ga ∧ w2.heap.size < gb ∧ w2.heap.size < gc ∧
        Hid (Blk wx ga 27 #[.int .i64 g, .int .i64 t, .slice D2 m c2, .int .i64 l]) ∧ Hid (Blk wx gb 27 #[.int .i64 g, .int .i64 t, .slice D2 m c2, .int .i64 l]) ∧ Hid (Blk wx gc 27 #[.int .i64 g, .int .i64 t, .slice D2 m c2, .int .i64 l]) ∧ Hid (Box w2 wx g t (.slice D2 m c2) l) ∧ Hid (Below W2.heap.size W2 wx))
      case first =>
        have hbd := hbo.drew
        go_region_held3 (fun w' => w'.cell? ⟨w2.heap.size, 0, none⟩ = some (.int .i64 g) ∧ w'.cell? ⟨w2.heap.size, 1, none⟩ = some (.int .i64 t) ∧ w'.cell? ⟨w2.heap.size, 2, none⟩ = some (.slice D2 m c2) ∧ w'.cell? ⟨w2.heap.size, 3, none⟩ = some (.int .i64 l) ∧ Box w2 w' g t (.slice D2 m c2) l)
          ((refine Box.all ?_; repeat' (first | exact (by assumption) | refine Box.alloc ?_ _ | refine Box.set_ ?_ (by first | omega | (simp; omega)) _ _ | refine Box.drew ?_))) (fail)
        all_goals
          go_wp2_with fail
          go_meet
          case rel =>
            refine ⟨_, _, _, rfl, rfl, rfl, by omega, by omega, by omega, by omega, by omega, by omega, Lib.hid ?_, Lib.hid ?_, Lib.hid ?_, Lib.hid (((hbo.alloc _).alloc _).alloc _).drew, Lib.hid (bl_drew (bl_alloc (bl_alloc (bl_alloc (Below.refl _ _) _) _) _))⟩
            · repeat' (first | exact Blk.new' (by first | rfl | (simp; done) | (simp; omega)) | refine Blk.alloc ?_ _)
            · repeat' (first | exact Blk.new' (by first | rfl | (simp; done) | (simp; omega)) | refine Blk.alloc ?_ _)
            · repeat' (first | exact Blk.new' (by first | rfl | (simp; done) | (simp; omega)) | refine Blk.alloc ?_ _)
      case rest =>
        obtain ⟨ga, gb, gc, rfl, rfl, rfl, hab, hac, hbc, hga, hgb, hgc, KA, KB, KC, BX, BB⟩ := hcut
        have hba : gb ≠ ga := fun e => hab e.symm
        have hca : gc ≠ ga := fun e => hac e.symm
        have hcb : gc ≠ gb := fun e => hbc e.symm
        have a0 : wc.cell? ⟨ga, 0, none⟩ = some (.int .i64 g) := KA.out.cell 0
        have fa := KA.out.frozen 0
        have b1 : wc.cell? ⟨gb, 1, none⟩ = some (.int .i64 t) := KB.out.cell 1
        have fb := KB.out.frozen 1
        have c3 : wc.cell? ⟨gc, 3, none⟩ = some (.int .i64 l) := KC.out.cell 3
        have fc := KC.out.frozen 3
        have hCC := HK3.out.below BB.out
        have hCC2 := ((hCC.set_new HK3.out (show W2.heap.size ≤ ga by omega) 0 (.int .i64 (g + b))).set_new HK3.out (show W2.heap.size ≤ gb by omega) 1 (.int .i64 (t + b))).set_new HK3.out (show W2.heap.size ≤ gc by omega) 3 (.int .i64 (l + b))
        have hKA : Blk (((wc.setCell ⟨ga, 0, none⟩ (.int .i64 (g + b))).setCell ⟨gb, 1, none⟩ (.int .i64 (t + b))).setCell ⟨gc, 3, none⟩ (.int .i64 (l + b))) ga 27 #[.int .i64 (g + b), .int .i64 t, .slice D2 m c2, .int .i64 l] := (((KA.out.set_ 0 _).other hab _).other hac _)
        have hKB : Blk (((wc.setCell ⟨ga, 0, none⟩ (.int .i64 (g + b))).setCell ⟨gb, 1, none⟩ (.int .i64 (t + b))).setCell ⟨gc, 3, none⟩ (.int .i64 (l + b))) gb 27 #[.int .i64 g, .int .i64 (t + b), .slice D2 m c2, .int .i64 l] := (((KB.out.other hba _).set_ 1 _).other hbc _)
        have hKC : Blk (((wc.setCell ⟨ga, 0, none⟩ (.int .i64 (g + b))).setCell ⟨gb, 1, none⟩ (.int .i64 (t + b))).setCell ⟨gc, 3, none⟩ (.int .i64 (l + b))) gc 27 #[.int .i64 g, .int .i64 t, .slice D2 m c2, .int .i64 (l + b)] := (((KC.out.other hca _).other hcb _).set_ 3 _)
        have hBX := ((BX.out.set_ hga 0 (.int .i64 (g + b))).set_ hgb 1 (.int .i64 (t + b))).set_ hgc 3 (.int .i64 (l + b))
        have hBB : Below W2.heap.size W2 (((wc.setCell ⟨ga, 0, none⟩ (.int .i64 (g + b))).setCell ⟨gb, 1, none⟩ (.int .i64 (t + b))).setCell ⟨gc, 3, none⟩ (.int .i64 (l + b))) := ((BB.out.setCell (p := ⟨ga, 0, none⟩) (show W2.heap.size ≤ ga by omega) _).setCell (p := ⟨gb, 1, none⟩) (show W2.heap.size ≤ gb by omega) _).setCell (p := ⟨gc, 3, none⟩) (show W2.heap.size ≤ gc by omega) _
        have hbi : b ≠ 0 := hbz
        have HN := Lib.hid hbi
        have E1 := Lib.hid (Ex.exact_not (g' := g + b) (t' := t) (l' := l) HEX.out (by omega))
        have E2 := Lib.hid (Ex.exact_not (g' := g) (t' := t + b) (l' := l) HEX.out (by omega))
        have E3 := Lib.hid (Ex.exact_not (g' := g) (t' := t) (l' := l + b) HEX.out (by omega))
        have HCC := Lib.hid hCC2
        have HKA := Lib.hid hKA
        have HKB := Lib.hid hKB
        have HKC := Lib.hid hKC
        have HBX := Lib.hid hBX
        have HBB := Lib.hid hBB
        clear hCC hCC2 hKA hKB hKC hBX hBB KA KB KC BX BB hbi hbz
        have l0 := (Db.left_bounds (A := A) (a := g - t) (n := m) (by omega) (fun i hi => (Db.ok_in HCK.out hi).2.2.1) m (Nat.le_refl _))
        rw [← HL.out] at l0
        obtain ⟨l0, l1⟩ := l0
        go_upto_region 10 with (fail)
        generalize (((wc.setCell ⟨ga, 0, none⟩ (.int .i64 (g + b))).setCell ⟨gb, 1, none⟩ (.int .i64 (t + b))).setCell ⟨gc, 3, none⟩ (.int .i64 (l + b))) = wz at *
        clear a0 fa b1 fb c3 fc
        obtain ⟨o0, o1, o2, o3, _⟩ := HBX.out.all
        go_wp2_with fail
        refine (exact_any (g := g) (t := t) (l := l) (O := Db.get A (g - t)) (by omega) HCC.out).mono ?_
        rintro e wy0 ⟨rfl, hb9⟩
        rw [HEX.out]
        clear o0 o1 o2 o3
        replace HCC := Lib.hid (HCC.out.below hb9)
        replace HKA := Lib.hid (HKA.out.keep hb9)
        replace HKB := Lib.hid (HKB.out.keep hb9)
        replace HKC := Lib.hid (HKC.out.keep hb9)
        replace HBB := Lib.hid (Below.on HBB.out hb9)
        clear hb9
        have o0 : wy0.cell? ⟨ga, 0, none⟩ = some (.int .i64 (g + b)) := HKA.out.cell 0
        have o1 : wy0.cell? ⟨ga, 1, none⟩ = some (.int .i64 t) := HKA.out.cell 1
        have o2 : wy0.cell? ⟨ga, 2, none⟩ = some (.slice D2 m c2) := HKA.out.cell 2
        have o3 : wy0.cell? ⟨ga, 3, none⟩ = some (.int .i64 l) := HKA.out.cell 3
        go_wp2_with fail
        refine (exact_any (g := g + b) (t := t) (l := l) (O := Db.get A (g - t)) (by omega) HCC.out).mono ?_
        rintro e wy1 ⟨rfl, hb9⟩
        rw [E1.out]
        clear o0 o1 o2 o3
        replace HCC := Lib.hid (HCC.out.below hb9)
        replace HKA := Lib.hid (HKA.out.keep hb9)
        replace HKB := Lib.hid (HKB.out.keep hb9)
        replace HKC := Lib.hid (HKC.out.keep hb9)
        replace HBB := Lib.hid (Below.on HBB.out hb9)
        clear hb9
        have o0 : wy1.cell? ⟨gb, 0, none⟩ = some (.int .i64 g) := HKB.out.cell 0
        have o1 : wy1.cell? ⟨gb, 1, none⟩ = some (.int .i64 (t + b)) := HKB.out.cell 1
        have o2 : wy1.cell? ⟨gb, 2, none⟩ = some (.slice D2 m c2) := HKB.out.cell 2
        have o3 : wy1.cell? ⟨gb, 3, none⟩ = some (.int .i64 l) := HKB.out.cell 3
        go_wp2_with fail
        refine (exact_any (g := g) (t := t + b) (l := l) (O := Db.get A (g - t)) (by omega) HCC.out).mono ?_
        rintro e wy2 ⟨rfl, hb9⟩
        rw [E2.out]
        clear o0 o1 o2 o3
        replace HCC := Lib.hid (HCC.out.below hb9)
        replace HKA := Lib.hid (HKA.out.keep hb9)
        replace HKB := Lib.hid (HKB.out.keep hb9)
        replace HKC := Lib.hid (HKC.out.keep hb9)
        replace HBB := Lib.hid (Below.on HBB.out hb9)
        clear hb9
        have o0 : wy2.cell? ⟨gc, 0, none⟩ = some (.int .i64 g) := HKC.out.cell 0
        have o1 : wy2.cell? ⟨gc, 1, none⟩ = some (.int .i64 t) := HKC.out.cell 1
        have o2 : wy2.cell? ⟨gc, 2, none⟩ = some (.slice D2 m c2) := HKC.out.cell 2
        have o3 : wy2.cell? ⟨gc, 3, none⟩ = some (.int .i64 (l + b)) := HKC.out.cell 3
        go_wp2_with fail
        refine (exact_any (g := g) (t := t) (l := l + b) (O := Db.get A (g - t)) (by omega) HCC.out).mono ?_
        rintro e wy3 ⟨rfl, hb9⟩
        rw [E3.out]
        clear o0 o1 o2 o3
        replace HCC := Lib.hid (HCC.out.below hb9)
        replace HKA := Lib.hid (HKA.out.keep hb9)
        replace HKB := Lib.hid (HKB.out.keep hb9)
        replace HKC := Lib.hid (HKC.out.keep hb9)
        replace HBB := Lib.hid (Below.on HBB.out hb9)
        clear hb9
        go_wp2_with fail
        refine (works47 _).mono ?_
        rintro e wy9 ⟨rfl, hb9⟩
        have hbe := Below.on HBS.out (Below.on HBB.out hb9)
        clear hb9
        go_wp2
        go_ret
        exact ⟨rfl, hbe⟩
  · have Hy := Lib.hid hy
    have HBB := Lib.hid hB
    have HK := Lib.hid kB
    have Hb := Lib.hid hbB
    clear hy hB kB hbB k1 hb
    go_wp2_with fail
    refine (pay_bad (by omega) (by omega) HBB.out HK.out (fun i _ => cut40_size _) Hy.out.symm hy0).mono ?_
    rintro e w2 ⟨rfl, hb2⟩
    unfold order
    have hbx := Lib.hid ((Below.on Hb.out hb2).alloc (Below.on Hb.out hb2).size (.cells #[.int .i64 0, .int .i64 0, .slice none 0 0, .int .i64 0] 27))
    clear hb2
    go_wp2_with fail
    refine (works47 _).mono ?_
    rintro e w9 ⟨rfl, hb9⟩
    have hbe := Below.on hbx.out hb9
    clear hb9
    go_wp2
    go_ret
    exact ⟨rfl, hbe⟩
end Go.Proofs.Ytjifpiaianmmbaa
