/- Both objects beside each other: each is kept over the other's calls; the reference's calls in the plain words. -/
import Derived.Test.YtdbpbpnbcjbchaaRepRef10
set_option linter.unusedVariables false
namespace Go.Proofs.Ytdbpbpnbcjbchaa
open Go.RowKit
namespace Rp
theorem Kr.own {B : Nat} {w w' : World} {e : TypeId} {size : Nat} {v : Value} {n : Nat} {xs : List Value} (h : w.ownsRow B e size v n xs) (k : Kr w w') (h1 : e ≠ 67) (h2 : e ≠ 71) : w'.ownsRow B e size v n xs := by
  refine ⟨h.1, ?_⟩
  rcases h.2 with hn | ⟨g, cap, cur, hv, hb, hg, h3⟩
  · exact .inl hn
  · exact .inr ⟨g, cap, cur, hv, hb, k g cur e h1 h2 hg, h3⟩
theorem Kr.blk {w w' : World} {g : Nat} {t : TypeId} {cs : Array Value} (h : Blk w g t cs) (k : Kr w w') (h1 : t ≠ 67) (h2 : t ≠ 71) : Blk w' g t cs := k g cs t h1 h2 h
theorem Obj.kr {B : Nat} {w w' : World} {h n : Nat} {s : St} (o : Obj B w h n s) (k : Kr w w') : Obj B w' h n s := by
  obtain ⟨lv, cv, c⟩ := o
  exact ⟨lv, cv, ⟨k.blk c.blk (by decide) (by decide), fun i hi => k.own (c.own i hi) (by decide) (by decide), k.own c.cow (by decide) (by decide), c.dif, c.hB, c.n1, c.n7, c.zero, c.l, c.e⟩⟩
theorem RObj.kp {B : Nat} {w w' : World} {h b n : Nat} {s : St} (o : RObj B w h b n s) (k : Kp w w') : RObj B w' h b n s := by
  obtain ⟨lv, cv, c⟩ := o
  exact ⟨lv, cv, ⟨Kp.blk c.grp k (by decide) (by decide), Kp.blk c.nds k (by decide) (by decide), fun i hi => Kp.own (B' := 0) (c.own i hi) k (by decide) (by decide), Kp.own (B' := 0) c.cow k (by decide) (by decide), c.hB, c.bB, c.n1, c.n7, c.l, c.e⟩⟩
theorem RObj.keep {B : Nat} {w w' : World} {h b n : Nat} {s : St} (o : RObj B w h b n s) (k : Below w.heap.size w w') : RObj B w' h b n s := o.kp (Kp.below k)
theorem RObj.base {B B' : Nat} {w : World} {h b n : Nat} {s : St} (o : RObj B w h b n s) (hB : B' ≤ B) : RObj B' w h b n s := by
  obtain ⟨lv, cv, c⟩ := o
  exact ⟨lv, cv, ⟨c.grp, c.nds, fun i hi => own_base (c.own i hi) hB, own_base c.cow hB, Nat.le_trans hB c.hB, Nat.le_trans hB c.bB, c.n1, c.n7, c.l, c.e⟩⟩
section
variable {B : Nat} {w : World} {h b n K : Nat} {s : St}
theorem rlead_all (o : RObj B w h b n s) (hL : Lim s K) (hK : K ≤ 1000) (x : Int) :
    Calls Try.prog 36 #[.pointer (some ⟨h, 0, none⟩), .int .i64 x] w fun e w' => e = .returned (.int .i64 ((leadO n s x).1 : Int)) ∧ RDid B w w' h b n (leadO n s x).2 := by
  have os := RObj.same o
  obtain ⟨lv, cv, c⟩ := o
  unfold leadO
  by_cases h0 : inr n x
  · rw [if_neg (fun q => q h0)]
    obtain ⟨hx, hi⟩ := inr_yes h0
    generalize x.toNat = i at hx hi ⊢
    subst hx
    by_cases h1 : (s.nd i).down = true
    · rw [if_pos h1]
      exact (rlead_down c hi h1).mono fun e w' ⟨h2, h3⟩ => ⟨h2, by subst h3; exact os⟩
    · rw [if_neg h1]
      have h1' : (s.nd i).down = false := by simpa using h1
      by_cases h2 : (s.nd i).cut = true
      · rw [if_pos h2]
        exact (rlead_cut c hi h1' h2).mono fun e w' ⟨h2, h3⟩ => ⟨h2, by subst h3; exact os⟩
      · rw [if_neg h2]
        have h2' : (s.nd i).cut = false := by simpa using h2
        have hm := rlead_main c hi h1' h2' (by have := gr_le s K n (fun i _ => hL.ep i); omega)
        by_cases h3 : 2 * rcnt s n ≤ n
        · rw [if_pos h3]
          rw [if_pos h3, if_pos h3] at hm
          exact hm
        · rw [if_neg h3]
          rw [if_neg h3, if_neg h3] at hm
          exact hm
  · rw [if_pos h0]
    exact (rlead_bad c (inr_no h0)).mono fun e w' ⟨h2, h3⟩ => ⟨h2, by subst h3; exact os⟩
theorem rprop_all (o : RObj B w h b n s) (hL : Lim s K) (hK : K ≤ 1000) (x : Int) {t : ByteArray} (ht : t.size ≤ 20) :
    Calls Try.prog 37 #[.pointer (some ⟨h, 0, none⟩), .int .i64 x, .string t] w fun e w' => e = .returned (.tuple #[.int .i64 ((propO n s x t).1 : Int), .int .i64 ((propO n s x t).2.1 : Int)]) ∧ RDid B w w' h b n (propO n s x t).2.2 := by
  have os := RObj.same o
  obtain ⟨lv, cv, c⟩ := o
  unfold propO
  by_cases h0 : inr n x
  · rw [if_neg (fun q => q h0)]
    obtain ⟨hx, hi⟩ := inr_yes h0
    generalize x.toNat = i at hx hi ⊢
    subst hx
    cases h1 : ldr (s.nd i) with
    | false =>
      rw [if_pos rfl]
      exact rpropose_no c hi h1
    | true =>
      rw [if_neg (by simp)]
      exact rpropose_ok c hi h1 ht (by have := hL.log i; omega)
  · rw [if_pos h0]
    exact (rpropose_bad c (inr_no h0)).mono fun e w' ⟨h2, h3⟩ => ⟨h2, by subst h3; exact os⟩
theorem rcopy_all (o : RObj B w h b n s) (x y : Int) :
    Calls Try.prog 38 #[.pointer (some ⟨h, 0, none⟩), .int .i64 x, .int .i64 y] w fun e w' => e = .returned (.int .i64 ((copyO n s x y).1 : Int)) ∧ RDid B w w' h b n (copyO n s x y).2 := by
  have os := RObj.same o
  obtain ⟨lv, cv, c⟩ := o
  unfold copyO
  by_cases h0 : inr n x
  · obtain ⟨hx, hi⟩ := inr_yes h0
    by_cases h1 : inr n y
    · rw [if_neg (fun q => q.elim (fun z => z h0) (fun z => z h1))]
      obtain ⟨hy, hj⟩ := inr_yes h1
      generalize x.toNat = i at hx hi ⊢
      generalize y.toNat = j at hy hj ⊢
      subst hx hy
      have hm := rcopy_two c hi hj
      by_cases h2 : cpe s i j = 0
      · rw [if_neg (fun q => q h2)]
        rw [if_pos h2, h2] at hm
        exact hm
      · rw [if_pos h2]
        rw [if_neg h2] at hm
        exact hm
    · rw [if_pos (.inr h1)]
      generalize x.toNat = i at hx hi ⊢
      subst hx
      exact (rcopy_bad2 c hi (inr_no h1)).mono fun e w' ⟨h2, h3⟩ => ⟨h2, by subst h3; exact os⟩
  · rw [if_pos (.inl h0)]
    exact (rcopy_bad1 c (inr_no h0)).mono fun e w' ⟨h2, h3⟩ => ⟨h2, by subst h3; exact os⟩
end
/-- A node that is down leads nothing. -/
def Dl (s : St) : Prop := ∀ i, (s.nd i).down = true → (s.nd i).led = 0
theorem dl0 : Dl st0 := fun i h => rfl
theorem Dl.set {s : St} {i : Nat} {d : Nd} (h : Dl s) (hd : d.down = true → d.led = 0) : Dl (setN s i d) := fun k => by
  by_cases e : k = i
  · subst e; rw [setN_at]; exact hd
  · rw [setN_ne s d e]; exact h k
theorem Dl.upd {s : St} {n i : Nat} (h : Dl s) : Dl (upd n s i) := by
  unfold Rp.upd
  split
  · exact h
  · exact fun k => h k
theorem Dl.act {n : Nat} {s : St} {a : Ac} (h : Dl s) : Dl (actO n s a).2.2 := by
  unfold actO
  split
  · unfold leadO
    split
    · exact h
    split
    · exact h
    split
    · exact h
    split
    · exact h
    · rename_i h1 _ _
      intro k hk
      have hd : ((ledS s n a.x.toNat (gr s n + 1) ((bst s n).getD 0)).nd k).down = (s.nd k).down := by
        unfold ledS
        by_cases e : k = a.x.toNat
        · subst e; rw [setN_at]; show ((setN _ _ _).nd _).down = _; rw [setN_at]; show ((epd _ _ _).nd _).down = _; rw [epd_at]; split <;> rfl
        · rw [setN_ne _ _ e, setN_ne _ _ e, epd_at]; split <;> rfl
      rw [ledS_led]
      rw [hd] at hk
      split
      · rename_i e; subst e; exact (h1 hk).elim
      · exact h k hk
  split
  · unfold propO
    split
    · exact h
    split
    · exact h
    · unfold pushed
      exact Dl.upd (h.set (h _))
  split
  · unfold copyO
    split
    · exact h
    split
    · exact h
    · unfold copied
      split
      · exact Dl.upd h
      · exact Dl.upd (h.set (h _))
  split
  · unfold failO
    split
    · exact h
    split
    · exact h
    · exact h.set fun _ => rfl
  split
  · unfold restartO
    split
    · exact h
    split
    · exact h
    · exact h.set fun x => by cases x
  split
  · unfold cutO
    split
    · exact h
    split
    · exact h
    · exact h.set (h _)
  · unfold joinO
    split
    · exact h
    split
    · exact h
    · exact h.set (h _)
/-- Both objects, and an act in its box. -/
structure Bth (B : Nat) (w w' : World) (h hr b n : Nat) (s1 s2 : St) (q : Nat) (cs : Array Value) : Prop where
  ours : Obj B w' h n s1
  theirs : RObj B w' hr b n s2
  act : Blk w' q 38 cs
  below : Below B w w'
section
variable {B : Nat} {w w1 w2 : World} {h hr b n q : Nat} {s1 s2 s3 : St} {cs : Array Value}
theorem Bth.one (t : Bth B w w1 h hr b n s1 s2 q cs) (d : Did B w1 w2 h n s3) : Bth B w w2 h hr b n s3 s2 q cs := ⟨d.obj, t.theirs.kp d.kp, Kp.blk t.act d.kp (by decide) (by decide), t.below.trans d.below⟩
theorem Bth.two (t : Bth B w w1 h hr b n s1 s2 q cs) (d : RDid B w1 w2 hr b n s3) : Bth B w w2 h hr b n s1 s3 q cs := ⟨t.ours.kr d.kr, d.obj, Kr.blk t.act d.kr (by decide) (by decide), t.below.trans d.below⟩
theorem Bth.start (o : Obj B w h n s1) (r : RObj B w hr b n s2) (cs : Array Value) : Bth B w (w.alloc (.cells cs 38)) h hr b n s1 s2 w.heap.size cs := by
  have hal := (Below.refl w.heap.size w).alloc (Nat.le_refl _) (.cells cs 38)
  exact ⟨(o.keep hal).obj, r.keep hal, Blk.new w _ _, (o.keep hal).below⟩
theorem Bth.drew (t : Bth B w w1 h hr b n s1 s2 q cs) : Bth B w w1.drew h hr b n s1 s2 q cs := t.one (t.ours.keep (Below.refl _ _).drew)
end
end Rp
end Go.Proofs.Ytdbpbpnbcjbchaa
