/- The reference's account: an amount appended to one of its lists, and Settle. -/
import Derived.Test.YtpalmlcepppifaaRetRef4
set_option linter.unusedVariables false
namespace Go.Proofs.Ytpalmlcepppifaa
open Go.RowKit

theorem own_set {B h i : Nat} {w : World} {e : TypeId} {size : Nat} {v : Value} {n : Nat} {xs : List Value} {u : Value} (hown : w.ownsRow B e size v n xs) (hne : v.ownBlock ≠ some h) : (w.setCell ⟨h, i, none⟩ u).ownsRow B e size v n xs :=
  hown.kept (only_set (only_refl w h) i u) (.inr hne)
theorem Ref.push {B : Nat} {w0 w1 : World} {h : Nat} {t : Rt.Tm} {x x' : Rt.St} {L : Nat} {v : Nat → Value} {n : Nat → Nat} {F : Nat → Nat → Int} {i g cap : Nat} {a : Int}
    (r : Ref B w0 h t x L v n F) (hi : i < 3)
    (hown : w1.ownsRow B 3 1 (.slice (some ⟨g, 0, none⟩) (n i + 1) cap) (n i + 1) (row (n i) (IntV (F i)) ++ [.int .i64 a]))
    (hgrow : w0.grownBy w1 (v i).ownBlock) (hat : (v i).ownBlock = some g ∨ g = w0.heap.size) (ha : 0 ≤ a) (hx' : Rt.okS x')
    (hsel : ∀ j, j < 3 → sel x' j = if j = i then sel x j + a else sel x j) :
    RefE B (w1.setCell ⟨h, 5 + i, none⟩ (.slice (some ⟨g, 0, none⟩) (n i + 1) cap)) h t x' (L + 1) := by
  have hgh : g ≠ h := by
    rcases hat with e | e
    · have := r.off i hi; rw [e] at this; intro e2; exact this (by rw [e2])
    · have := r.blk.lt; omega
  have hblk : Blk w1 h 87 #[.int .i64 t.sale, .int .i64 t.cash, .int .i64 t.bonus, .int .i64 t.above, .int .i64 t.credit, v 0, v 1, v 2] := r.blk.grown hgrow (fun e => r.off i hi e.symm)
  have hold : ∀ j, j < 3 → j ≠ i → (v j).ownBlock ≠ some g := fun j hj hne e => by
    rcases hat with e1 | e1
    · rcases r.apart j i hj hi hne with e2 | e2
      · rw [e2] at e; cases e
      · exact e2 (e.trans e1.symm)
    · have := ((r.rows j hj).own.lt g e).2
      omega
  refine ⟨fun j => if j = i then .slice (some ⟨g, 0, none⟩) (n i + 1) cap else v j, fun j => if j = i then n i + 1 else n j, fun j => if j = i then (fun k => if k = n i then a else F i k) else F j, ?_, ?_, ?_, ?_, ?_, r.hB, hx'⟩
  · have h1 := hblk.set_ (5 + i) (.slice (some ⟨g, 0, none⟩) (n i + 1) cap)
    rcases (show i = 0 ∨ i = 1 ∨ i = 2 by omega) with rfl | rfl | rfl
    · exact h1
    · exact h1
    · exact h1
  · intro j hj
    by_cases e : j = i
    · subst e
      simp only [if_pos]
      have hr := r.rows j hj
      refine ⟨?_, fun k hk => ?_, ?_⟩
      · rw [show row ((n j + 1) * 1) (IntV fun k => if k = n j then a else F j k) = row (n j) (IntV (F j)) ++ [.int .i64 a] from ?_]
        · exact own_set hown (fun e => hgh (by injection e))
        · rw [Nat.mul_one, row_one]
          congr 1
          · exact row_congr fun k hk => by show Value.int .i64 (if k = n j then a else F j k) = Value.int .i64 (F j k); rw [if_neg (by omega)]
          · show [Value.int .i64 (if n j = n j then a else F j (n j))] = [Value.int .i64 a]; rw [if_pos rfl]
      · by_cases e2 : k = n j
        · simp only [e2, if_pos]; exact ha
        · simp only [if_neg e2]; exact hr.pos k (by omega)
      · rw [hsel j hj, if_pos rfl]
        show sm _ (n j) + (if n j = n j then a else F j (n j)) = _
        rw [if_pos rfl, ← hr.sum]
        congr 1
        exact sm_congr fun k hk => by rw [if_neg (by omega)]
    · simp only [if_neg e]
      have hr := r.rows j hj
      refine ⟨own_set (hr.own.kept hgrow ?_) (r.off j hj), hr.pos, ?_⟩
      · exact r.apart j i hj hi e
      · rw [hr.sum, hsel j hj, if_neg e]
  · intro j k hj hk hjk
    by_cases e : j = i
    · by_cases e2 : k = i
      · exact absurd (e.trans e2.symm) hjk
      · simp only [if_pos e, if_neg e2]
        exact .inr fun e3 => hold k hk e2 e3.symm
    · by_cases e2 : k = i
      · simp only [if_neg e, if_pos e2]
        exact .inr (hold j hj e)
      · simp only [if_neg e, if_neg e2]
        exact r.apart j k hj hk hjk
  · intro j hj
    by_cases e : j = i
    · simp only [if_pos e]; intro e2; exact hgh (by injection e2)
    · simp only [if_neg e]; exact r.off j hj
  · intro j hj
    by_cases e : j = i
    · simp only [if_pos e]; have := r.len i hi; omega
    · simp only [if_neg e]; have := r.len j hj; omega

/-- What lies elsewhere is kept. -/
def Frm (w w' : World) (h : Nat) (v : Nat → Value) : Prop := ∀ b, b < w.heap.size → b ≠ h → (∀ i, i < 3 → (v i).ownBlock ≠ some b) → w'.heap[b]? = w.heap[b]?
theorem Frm.below {w w1 : World} {h : Nat} {v : Nat → Value} (hb : Below w.heap.size w w1) : Frm w w1 h v := fun b hl _ _ => hb.block b hl
theorem Frm.on {w w1 w2 : World} {h : Nat} {v : Nat → Value} (k : Frm w w1 h v) (hs : w.heap.size ≤ w1.heap.size) (hb : Below w1.heap.size w1 w2) : Frm w w2 h v := fun b hl h1 h2 => (hb.block b (Nat.lt_of_lt_of_le hl hs)).trans (k b hl h1 h2)
theorem Frm.seth {w w1 : World} {h : Nat} {v : Nat → Value} (k : Frm w w1 h v) (i : Nat) (u : Value) : Frm w (w1.setCell ⟨h, i, none⟩ u) h v := fun b hl h1 h2 => (Below.heap_setCell w1 ⟨h, i, none⟩ u b h1).trans (k b hl h1 h2)
theorem Frm.setn {w w1 : World} {h : Nat} {v : Nat → Value} (k : Frm w w1 h v) {b' : Nat} (hb : w.heap.size ≤ b') (i : Nat) (u : Value) : Frm w (w1.setCell ⟨b', i, none⟩ u) h v := fun b hl h1 h2 => (Below.heap_setCell w1 ⟨b', i, none⟩ u b (by simp; omega)).trans (k b hl h1 h2)
theorem Frm.alloc {w w1 : World} {h : Nat} {v : Nat → Value} (k : Frm w w1 h v) (hs : w.heap.size ≤ w1.heap.size) (o : Go.Obj) : Frm w (w1.alloc o) h v := k.on hs ((Below.refl _ _).alloc (Nat.le_refl _) o)
theorem Frm.grow {w w1 w2 : World} {h i : Nat} {v : Nat → Value} (k : Frm w w1 h v) (hs : w.heap.size ≤ w1.heap.size) (hi : i < 3) (hg : w1.grownBy w2 (v i).ownBlock) : Frm w w2 h v := fun b hl h1 h2 => (hg.block b (Nat.lt_of_lt_of_le hl hs) (fun e => h2 i hi e.symm)).trans (k b hl h1 h2)

set_option maxHeartbeats 1000000 in
theorem refSettle_any {B : Nat} {w : World} {h : Nat} {t : Rt.Tm} {x : Rt.St} {L : Nat} {v' : Nat → Value} {n' : Nat → Nat} {F' : Nat → Nat → Int} (r0 : Ref B w h t x L v' n' F') (hL : L ≤ 1000) (ht : Rt.okT t) (hBw : B ≤ w.heap.size) :
    Calls Try.prog 52 #[.pointer (some ⟨h, 0, none⟩)] w fun e w' => e = .returned (.agg (setC t x)) ∧ RefE B w' h t Rt.zero 0 ∧ Below B w w' ∧ Frm w w' h v' := by
  have r : RefE B w h t x L := ⟨_, _, _, r0⟩
  clear r0
  obtain ⟨hBh, hlt⟩ := r.lt
  obtain ⟨W, hW⟩ : ∃ W, W = w.alloc (.cells #[.int .i64 0, .int .i64 0, .int .i64 0, .int .i64 0, .int .i64 0] 44) := ⟨_, rfl⟩
  have hO : RefE B W h t x L := by rw [hW]; exact r.keep ((Below.refl _ _).alloc (Nat.le_refl _) _)
  have hR : Blk W w.heap.size 44 #[.int .i64 0, .int .i64 0, .int .i64 0, .int .i64 0, .int .i64 0] := by rw [hW]; exact Blk.new w _ _
  have hB : Below B w W := by rw [hW]; exact (Below.refl _ _).alloc hBw _
  have HBW := Lib.hid (show Below w.heap.size w W by rw [hW]; exact (Below.refl _ _).alloc (Nat.le_refl _) _)
  have HO := Lib.hid hO
  have HR := Lib.hid hR
  have HB := Lib.hid hB
  have HW := Lib.hid hW
  have HT := Lib.hid ht
  clear r hO hR hB hW ht
  obtain ⟨a0, a1, a2, a3, a4, hset⟩ : ∃ a0 a1 a2 a3 a4 : Int, setC t x = #[.int .i64 a0, .int .i64 a1, .int .i64 a2, .int .i64 a3, .int .i64 a4] := ⟨_, _, _, _, _, rfl⟩
  have HS := Lib.hid hset
  clear hset
  rw [HS.out]
  go_enter Try.func52, Try.ntmps52
  go_wp2_with fail
  rw [← HW.out]
  clear HW
  refine (refOpen_any HO.out hL HT.out).mono ?_
  rintro e w1 ⟨rfl, hb1⟩
  rw [HS.out]
  have hO1 := HO.out.keep hb1
  have hR1 := HR.out.keep hb1
  have hsz := hR1.lt
  have hsz2 := hb1.size
  have HF1 := Lib.hid (Frm.on (h := h) (v := v') (Frm.below HBW.out) HBW.out.size hb1)
  have HB1 := Lib.hid (HB.out.trans (hb1.mono (Nat.le_trans hBw HB.out.size)))
  obtain ⟨v, n, F, hr⟩ := hO1
  obtain ⟨A, c, hv, q0, q1, q2, q3, q4, q5, q6, q7, f5, f6, f7⟩ := hr.open_
  obtain ⟨j0, j1, j2, j3, j4, i0, i1, i2, i3, i4⟩ := set_at hR1
  have HR2 := Lib.hid hr
  have hg1 : h < w1.heap.size := by omega
  have hne : h ≠ w.heap.size := by omega
  clear hr hv hR1 hb1 HB HO HR q0 q1 q2 q3 q4
  go_wp2
  refine bodyPost_ret (v := .agg #[.int .i64 a0, .int .i64 a1, .int .i64 a2, .int .i64 a3, .int .i64 a4]) (by simp [results, Try.results52, go_sem, j0, j1, j2, j3, j4, hsz]) rfl ⟨rfl, ?_, ?_, ?_⟩
  · refine ⟨fun _ => .slice none 0 0, fun _ => 0, fun _ _ => 0, ((((((((HR2.out.blk.set_ 5 _).set_ 6 _).set_ 7 _).other hne _ _).other hne _ _).other hne _ _).other hne _ _).other hne _ _).alloc _, fun i hi => ⟨World.ownsRow_nil _ _ _ _, fun j hj => absurd hj (by omega), ?_⟩, fun i j _ _ _ => .inl rfl, fun i _ => by simp [Value.ownBlock], fun i _ => Nat.le_refl _, HR2.out.hB, Rt.okS_zero⟩
    unfold sel Rt.zero; simp [sm]
  · exact (((((((((HB1.out.setCell (p := ⟨h, 5, none⟩) hBh _).setCell (p := ⟨h, 6, none⟩) hBh _).setCell (p := ⟨h, 7, none⟩) hBh _).setCell (p := ⟨w.heap.size, 0, none⟩) hBw _).setCell (p := ⟨w.heap.size, 1, none⟩) hBw _).setCell (p := ⟨w.heap.size, 2, none⟩) hBw _).setCell (p := ⟨w.heap.size, 3, none⟩) hBw _).setCell (p := ⟨w.heap.size, 4, none⟩) hBw _).alloc (by simp; omega) _)
  · exact Frm.alloc ((((((((HF1.out.seth 5 _).seth 6 _).seth 7 _).setn (Nat.le_refl _) 0 _).setn (Nat.le_refl _) 1 _).setn (Nat.le_refl _) 2 _).setn (Nat.le_refl _) 3 _).setn (Nat.le_refl _) 4 _) (by simp; omega) _
end Go.Proofs.Ytpalmlcepppifaa
