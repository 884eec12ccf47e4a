/- A log is laid anew; what a call keeps. -/
import Derived.Test.YtdbpbpnbcjbchaaRepLog
set_option linter.unusedVariables false
namespace Go.Proofs.Ytdbpbpnbcjbchaa
open Go.RowKit
namespace Rp
def setL (lv : Nat → Value) (i : Nat) (v : Value) : Nat → Value := fun k => if k = i then v else lv k
theorem gcell_log (n : Nat) (s : St) (lv : Nat → Value) (cv v : Value) {i : Nat} (hi : i < 7) (l : Log) :
    ∀ j, j < 37 → gcell n (setN s i { s.nd i with log := l }).nd (setL lv i v) cv j = if j = 1 + i * 5 + 4 then v else gcell n s.nd lv cv j := fun j hj => by
  by_cases e0 : j = 0
  · subst e0; rw [if_neg (by omega)]; rfl
  by_cases e6 : j = 36
  · subst e6; rw [if_neg (by omega)]; rfl
  by_cases ei : (j - 1) / 5 = i
  · have hm : j = 1 + i * 5 ∨ j = 1 + i * 5 + 1 ∨ j = 1 + i * 5 + 2 ∨ j = 1 + i * 5 + 3 ∨ j = 1 + i * 5 + 4 := by omega
    obtain ⟨a0, a1, a2, a3, a4⟩ := gcell_at n s.nd lv cv hi
    obtain ⟨b0, b1, b2, b3, b4⟩ := gcell_at n (setN s i { s.nd i with log := l }).nd (setL lv i v) cv hi
    rw [setN_at] at b0 b1 b2 b3
    rcases hm with rfl | rfl | rfl | rfl | rfl
    · rw [b0, a0, if_neg (by omega)]
    · rw [b1, a1, if_neg (by omega)]
    · rw [b2, a2, if_neg (by omega)]
    · rw [b3, a3, if_neg (by omega)]
    · rw [b4, if_pos rfl]; exact if_pos rfl
  · rw [if_neg (by omega)]
    unfold gcell setL
    rw [setN_ne s _ ei, if_neg ei]
theorem own_types {B B' : Nat} {w : World} {e e' : TypeId} {size size' : Nat} {v v' : Value} {n n' : Nat} {xs xs' : List Value} (h : w.ownsRow B e size v n xs) (h' : w.ownsRow B' e' size' v' n' xs') (he : e ≠ e') : v.ownBlock = none ∨ v.ownBlock ≠ v'.ownBlock := by
  cases hv : v.ownBlock with
  | none => exact .inl rfl
  | some g =>
    refine .inr fun e2 => ?_
    obtain ⟨cur, hh⟩ := own_obj h hv
    obtain ⟨cur', hh'⟩ := own_obj h' e2.symm
    rw [hh] at hh'
    injection hh' with hh'
    injection hh' with _ hh'
    exact he hh'
theorem Gp.relog {B : Nat} {w w' : World} {h n : Nat} {s : St} {lv : Nat → Value} {cv v : Value} (c : Gp B w h n s lv cv) {i : Nat} (hi : i < n) {l : Log} (hg : w.grownBy w' (lv i).ownBlock)
    (hv : w'.ownsRow B 62 2 v l.length (row (l.length * 2) (Ent l))) (hvb : v.ownBlock = none ∨ v.ownBlock = (lv i).ownBlock ∨ ∃ g, v.ownBlock = some g ∧ w.heap.size ≤ g) (hl : l.length ≤ 1024) :
    Gp B (w'.setCell ⟨h, 1 + i * 5 + 4, none⟩ v) h n (setN s i { s.nd i with log := l }) (setL lv i v) cv := by
  have hn7 := c.n7
  have hi7 : i < 7 := by omega
  obtain ⟨hne, hnc⟩ := own_ne c
  have hb' : Arr w' h 55 37 (gcell n s.nd lv cv) := Blk.grown c.blk hg (fun e => hne i hi7 e.symm)
  have hvh : v.ownBlock ≠ some h := fun e => by
    have hb := hb'
    unfold Arr Blk at hb
    obtain ⟨cur, hh⟩ := own_obj hv e
    rw [hb] at hh
    injection hh with hh
    injection hh with _ hh
    revert hh; decide
  have hlv : ∀ j, j ≠ i → setL lv i v j = lv j := fun j hj => if_neg hj
  have hlvi : setL lv i v i = v := if_pos rfl
  have hvj : ∀ j, j < 7 → j ≠ i → (v.ownBlock = none ∨ v.ownBlock ≠ (lv j).ownBlock) ∧ ((lv j).ownBlock = none ∨ (lv j).ownBlock ≠ v.ownBlock) := fun j hj hji => by
    rcases hvb with h1 | h1 | ⟨g, h1, h2⟩
    · refine ⟨.inl h1, ?_⟩
      cases hlj : (lv j).ownBlock with
      | none => exact .inl rfl
      | some k => right; rw [h1]; exact fun x => by cases x
    · rw [h1]; exact ⟨c.dif i j hi7 hj (fun e => hji e.symm), c.dif j i hj hi7 hji⟩
    · have hlt := fun k hk => ((c.own j hj).lt k hk).2
      rw [h1]
      refine ⟨.inr fun e => ?_, ?_⟩
      · have := hlt g e.symm; omega
      · cases hlj : (lv j).ownBlock with
        | none => exact .inl rfl
        | some k => right; intro e; injection e with e; have := hlt k hlj; omega
  refine ⟨hb'.put (gcell_log n s lv cv v hi7 l), fun j hj => ?_, own_put (c.cow.kept hg (own_types c.cow (c.own i hi7) (by decide))) hnc _ _, fun j k hj hk hjk => ?_, c.hB, c.n1, c.n7, fun j hj => ?_, fun j hj => ?_, fun j hj => ?_⟩
  · by_cases e : j = i
    · subst e; rw [hlvi, setN_at]; exact own_put hv hvh _ _
    · rw [hlv j e, setN_ne s _ e]
      exact own_put ((c.own j hj).kept hg (c.dif j i hj hi7 e)) (hne j hj) _ _
  · by_cases e : j = i
    · subst e
      rw [hlvi, hlv k (fun x => hjk x.symm)]
      exact (hvj k hk (fun x => hjk x.symm)).1
    · rw [hlv j e]
      by_cases e2 : k = i
      · subst e2; rw [hlvi]; exact (hvj j hj e).2
      · rw [hlv k e2]; exact c.dif j k hj hk hjk
  · rw [setN_ne s _ (by omega)]; exact c.zero j hj
  · by_cases e : j = i
    · subst e; rw [setN_at]; exact hl
    · rw [setN_ne s _ e]; exact c.l j hj
  · by_cases e : j = i
    · subst e; rw [setN_at]; exact c.e j hj
    · rw [setN_ne s _ e]; exact c.e j hj
/-- What a call keeps: blocks of other types. -/
def Kp (w w' : World) : Prop := ∀ (b : Nat) (cs : Array Value) (t : TypeId), t ≠ 55 → t ≠ 62 → w.heap[b]? = some (.cells cs t (0, 0)) → w'.heap[b]? = some (.cells cs t (0, 0))
theorem Kp.refl (w : World) : Kp w w := fun _ _ _ _ _ h => h
theorem Kp.trans {w w1 w2 : World} (h : Kp w w1) (k : Kp w1 w2) : Kp w w2 := fun b cs t h1 h2 hb => k b cs t h1 h2 (h b cs t h1 h2 hb)
theorem Kp.below {w w1 : World} (h : Below w.heap.size w w1) : Kp w w1 := fun b cs t _ _ hb => (h.block b (Array.getElem?_eq_some_iff.1 hb).1).trans hb
theorem Kp.only {w w1 : World} {r : Option Nat} (hg : w.grownBy w1 r) (hr : ∀ j, r = some j → ∀ cs t, w.heap[j]? = some (.cells cs t (0, 0)) → t = 55 ∨ t = 62) : Kp w w1 := fun b cs t h1 h2 hb => by
  refine (hg.block b (Array.getElem?_eq_some_iff.1 hb).1 fun e => ?_).trans hb
  rcases hr b e.symm cs t hb with h | h
  · exact h1 h
  · exact h2 h
theorem Kp.own {B B' : Nat} {w w' : World} {e : TypeId} {size : Nat} {v : Value} {n : Nat} {xs : List Value} (h : w.ownsRow B e size v n xs) (k : Kp w w') (h1 : e ≠ 55) (h2 : e ≠ 62) : w'.ownsRow B e size v n xs := by
  refine ⟨h.1, ?_⟩
  rcases h.2 with hn | ⟨g, cap, cur, hv, hb, hg, h3⟩
  · exact .inl hn
  · exact .inr ⟨g, cap, cur, hv, hb, k g cur e h1 h2 hg, h3⟩
theorem Kp.blk {w w' : World} {g : Nat} {t : TypeId} {cs : Array Value} (h : Blk w g t cs) (k : Kp w w') (h1 : t ≠ 55) (h2 : t ≠ 62) : Blk w' g t cs := k g cs t h1 h2 h
/-- What a call leaves. -/
structure Did (B : Nat) (w w' : World) (h n : Nat) (s : St) : Prop where
  obj : Obj B w' h n s
  below : Below B w w'
  kp : Kp w w'
theorem Gp.did {B : Nat} {w w' : World} {h n : Nat} {s s' : St} {lv lv' : Nat → Value} {cv cv' : Value} (c : Gp B w h n s lv cv) (c' : Gp B w' h n s' lv' cv') (hg : w.grownBy w' (some h)) : Did B w w' h n s' := by
  refine ⟨⟨_, _, c'⟩, (Below.refl B w).grown hg (by have := c.hB; have := c.blk.lt; omega) (fun k hk => by injection hk with hk; have := c.hB; omega), Kp.only hg fun j hj cs t hb => ?_⟩
  injection hj with hj
  subst hj
  have := c.blk
  unfold Arr Blk at this
  rw [this] at hb
  injection hb with hb
  injection hb with _ hb
  exact .inl hb.symm
theorem Did.trans {B : Nat} {w w1 w2 : World} {h n : Nat} {s1 s2 : St} (d : Did B w w1 h n s1) (d2 : Did B w1 w2 h n s2) : Did B w w2 h n s2 := ⟨d2.obj, d.below.trans d2.below, d.kp.trans d2.kp⟩
theorem Did.refl {B : Nat} {w : World} {h n : Nat} {s : St} (o : Obj B w h n s) : Did B w w h n s := ⟨o, Below.refl _ _, Kp.refl _⟩
theorem Gp.drawn {B : Nat} {w w' : World} {h n : Nat} {s : St} {lv : Nat → Value} {cv : Value} (c : Gp B w h n s lv cv) (hd : Dn w w') : Did B w w' h n s := by
  obtain ⟨k, rfl⟩ := hd
  exact ⟨⟨_, _, c.drewN k⟩, below_drewN (Below.refl _ _) k, Kp.below (below_drewN (Below.refl _ _) k)⟩
/-- Behind a log's new place in memory. -/
theorem Gp.told {B : Nat} {w w' : World} {h n : Nat} {s : St} {lv : Nat → Value} {cv v : Value} (c : Gp B w h n s lv cv) {i : Nat} (hi : i < n) {l : Log} (hg : w.grownBy w' (lv i).ownBlock)
    (hv : w'.ownsRow B 62 2 v l.length (row (l.length * 2) (Ent l))) (hvb : v.ownBlock = none ∨ v.ownBlock = (lv i).ownBlock ∨ ∃ g, v.ownBlock = some g ∧ w.heap.size ≤ g) (hl : l.length ≤ 1024) :
    Did B w (w'.setCell ⟨h, 1 + i * 5 + 4, none⟩ v) h n (setN s i { s.nd i with log := l }) := by
  have c' := c.relog hi hg hv hvb hl
  have hn7 := c.n7
  have hB := c.hB
  have hlt := c.blk.lt
  have hown := c.own i (by omega)
  have hb1 : Below B w w' := (Below.refl B w).grown hg (by omega) (fun k hk => (hown.lt k hk).1)
  have hk1 : Kp w w' := Kp.only hg fun j hj cs t hb => by
    obtain ⟨cur, hh⟩ := own_obj hown hj
    rw [hh] at hb
    injection hb with hb
    injection hb with _ hb
    exact .inr hb.symm
  have hb' : Arr w' h 55 37 (gcell n s.nd lv cv) := Blk.grown c.blk hg (fun e => (own_ne c).1 i (by omega) e.symm)
  refine ⟨⟨_, _, c'⟩, hb1.setCell hB _, hk1.trans (Kp.only (r := some h) (only_set (only_refl w' h) _ v) fun j hj cs t hb => ?_)⟩
  injection hj with hj
  subst hj
  unfold Arr Blk at hb'
  rw [hb'] at hb
  injection hb with hb
  injection hb with _ hb
  exact .inl hb.symm
end Rp
end Go.Proofs.Ytdbpbpnbcjbchaa
