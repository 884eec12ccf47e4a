/- The reference's marks: a store into a node; what its calls keep; Fail, Restart, Cut, Join. -/
import Derived.Test.YtdbpbpnbcjbchaaRepRef2
set_option linter.unusedVariables false
namespace Go.Proofs.Ytdbpbpnbcjbchaa
open Go.RowKit
namespace Rp
theorem rcell_set (s : St) (lv : Nat → Value) {i k : Nat} {u : Value} {d : Nd} {m : Nat} (hk : k < 4)
    (h0 : Value.bool d.down = if k = 0 then u else .bool (s.nd i).down) (h1 : Value.bool d.cut = if k = 1 then u else .bool (s.nd i).cut)
    (h2 : Value.int .i64 (d.ep : Int) = if k = 2 then u else .int .i64 ((s.nd i).ep : Int)) (h3 : Value.int .i64 (d.led : Int) = if k = 3 then u else .int .i64 ((s.nd i).led : Int)) :
    ∀ j, j < m → rcell (setN s i d).nd lv j = if j = i * 5 + k then u else rcell s.nd lv j := fun j hj => by
  by_cases ei : j / 5 = i
  · have hm : j = i * 5 ∨ j = i * 5 + 1 ∨ j = i * 5 + 2 ∨ j = i * 5 + 3 ∨ j = i * 5 + 4 := by omega
    obtain ⟨a0, a1, a2, a3, a4⟩ := rcell_at s.nd lv i
    obtain ⟨b0, b1, b2, b3, b4⟩ := rcell_at (setN s i d).nd lv i
    rw [setN_at] at b0 b1 b2 b3
    rcases hm with rfl | rfl | rfl | rfl | rfl
    · rw [b0, a0, h0]; by_cases e : k = 0
      · subst e; rw [if_pos rfl, if_pos (by omega)]
      · rw [if_neg e, if_neg (by omega)]
    · rw [b1, a1, h1]; by_cases e : k = 1
      · subst e; rw [if_pos rfl, if_pos rfl]
      · rw [if_neg e, if_neg (by omega)]
    · rw [b2, a2, h2]; by_cases e : k = 2
      · subst e; rw [if_pos rfl, if_pos rfl]
      · rw [if_neg e, if_neg (by omega)]
    · rw [b3, a3, h3]; by_cases e : k = 3
      · subst e; rw [if_pos rfl, if_pos rfl]
      · rw [if_neg e, if_neg (by omega)]
    · rw [b4, a4, if_neg (by omega)]
  · rw [if_neg (by omega)]
    unfold rcell
    rw [setN_ne s d ei]
theorem own_blk {B g : Nat} {w : World} {e t : TypeId} {size : Nat} {v : Value} {n : Nat} {xs : List Value} {cs : Array Value} (hown : w.ownsRow B e size v n xs) (hb : Blk w g t cs) (ht : e ≠ t) : v.ownBlock ≠ some g := fun eq => by
  unfold Blk at hb
  obtain ⟨cur, hc⟩ := own_obj hown eq
  rw [hb] at hc
  injection hc with hc
  injection hc with _ hc
  exact ht hc.symm
theorem blk_ne {w : World} {g g' : Nat} {t t' : TypeId} {cs cs' : Array Value} (h : Blk w g t cs) (h' : Blk w g' t' cs') (ht : t ≠ t') : g ≠ g' := fun e => by
  subst e
  unfold Blk at h h'
  rw [h] at h'
  injection h' with h'
  injection h' with _ h'
  exact ht h'
section
variable {B : Nat} {w : World} {h b n : Nat} {s : St} {lv : Nat → Value} {cv : Value}
theorem Rf.put (c : Rf B w h b n s lv cv) {i k : Nat} {u : Value} {d : Nd} (hi : i < n) (hl : d.log = (s.nd i).log) (he : d.ep ≤ 1000000 ∧ d.led ≤ 1000000)
    (hu : ∀ j, j < n * 5 → rcell (setN s i d).nd lv j = if j = i * 5 + k then u else rcell s.nd lv j) : Rf B (w.setCell ⟨b, i * 5 + k, none⟩ u) h b n (setN s i d) lv cv := by
  have hlog : ∀ k, ((setN s i d).nd k).log = (s.nd k).log := fun k => by
    by_cases e : k = i
    · subst e; rw [setN_at, hl]
    · rw [setN_ne s d e]
  have hne : some h ≠ some b := fun e => blk_ne c.grp c.nds (by decide) (by injection e)
  refine ⟨Blk.grown c.grp (only_set (only_refl w b) _ _) hne, c.nds.put hu, fun j hj => ?_, own_put c.cow (own_blk c.cow c.nds (by decide)) _ _, c.hB, c.bB, c.n1, c.n7, fun j hj => ?_, fun j hj => ?_⟩
  · rw [hlog j]; exact own_put (c.own j hj) (own_blk (c.own j hj) c.nds (by decide)) _ _
  · rw [hlog j]; exact c.l j hj
  · by_cases e : j = i
    · subst e; rw [setN_at]; exact he
    · rw [setN_ne s d e]; exact c.e j hj
end
/-- What a call of the reference keeps: blocks of other types. -/
def Kr (w w' : World) : Prop := ∀ (b : Nat) (cs : Array Value) (t : TypeId), t ≠ 67 → t ≠ 71 → w.heap[b]? = some (.cells cs t (0, 0)) → w'.heap[b]? = some (.cells cs t (0, 0))
theorem Kr.refl (w : World) : Kr w w := fun _ _ _ _ _ h => h
theorem Kr.trans {w w1 w2 : World} (h : Kr w w1) (k : Kr w1 w2) : Kr w w2 := fun b cs t h1 h2 hb => k b cs t h1 h2 (h b cs t h1 h2 hb)
theorem Kr.below {w w1 : World} (h : Below w.heap.size w w1) : Kr w w1 := fun b cs t _ _ hb => (h.block b (Array.getElem?_eq_some_iff.1 hb).1).trans hb
theorem Kr.only {w w1 : World} {g : Nat} {t : TypeId} {cs : Array Value} (hg : w.grownBy w1 (some g)) (hb : Blk w g t cs) (ht : t = 67 ∨ t = 71) : Kr w w1 := fun b' cs' t' h1 h2 hb' => by
  refine (hg.block b' (Array.getElem?_eq_some_iff.1 hb').1 fun e => ?_).trans hb'
  injection e with e
  subst e
  have : t' = t := by
    unfold Blk at hb
    rw [hb] at hb'
    injection hb' with hb'
    injection hb' with _ hb'
    exact hb'.symm
  rcases ht with h | h
  · exact h1 (this.trans h)
  · exact h2 (this.trans h)
def RObj (B : Nat) (w : World) (h b n : Nat) (s : St) : Prop := ∃ lv cv, Rf B w h b n s lv cv
structure RDid (B : Nat) (w w' : World) (h b n : Nat) (s : St) : Prop where
  obj : RObj B w' h b n s
  below : Below B w w'
  kr : Kr w w'
theorem RDid.trans {B : Nat} {w w1 w2 : World} {h b n : Nat} {s1 s2 : St} (d : RDid B w w1 h b n s1) (d2 : RDid B w1 w2 h b n s2) : RDid B w w2 h b n s2 := ⟨d2.obj, d.below.trans d2.below, d.kr.trans d2.kr⟩
section
variable {B : Nat} {w : World} {h b n : Nat} {s : St} {lv : Nat → Value} {cv : Value}
theorem Rf.kept {w1 : World} (c : Rf B w h b n s lv cv) (hb : Below w.heap.size w w1) : RDid B w w1 h b n s :=
  ⟨⟨_, _, c.keep hb⟩, hb.mono (by have := c.hB; have := c.grp.lt; omega), Kr.below hb⟩
theorem Rf.node {s' : St} {lv' : Nat → Value} {cv' : Value} (c : Rf B w h b n s lv cv) {i : Nat} {u : Value} (c' : Rf B (w.setCell ⟨b, i, none⟩ u) h b n s' lv' cv') : RDid B w (w.setCell ⟨b, i, none⟩ u) h b n s' :=
  ⟨⟨_, _, c'⟩, (Below.refl B w).setCell (p := ⟨b, i, none⟩) c.bB u, Kr.only (only_set (only_refl w b) i u) c.nds (.inr rfl)⟩
set_option maxHeartbeats 1000000 in
theorem turn_bad_true (c : Rf B w h b n s lv cv) {x : Int} {tw : Bool} (hx : x < 0 ∨ (n : Int) ≤ x) :
    Calls Try.prog 50 #[.pointer (some ⟨h, 0, none⟩), .int .i64 x, .bool true, .bool tw] w fun e w' => e = .returned (.int .i64 2) ∧ w = w' := by
  have HC := Lib.hid c
  clear c
  go_enter Try.func50, Try.ntmps50
  go_wp2_with fail
  refine (rhas_no HC.out hx).mono ?_
  rintro e w1 ⟨rfl, rfl⟩
  go_wp2
  go_ret
  exact ⟨rfl, rfl⟩
set_option maxHeartbeats 1000000 in
theorem turn_bad_false (c : Rf B w h b n s lv cv) {x : Int} {tw : Bool} (hx : x < 0 ∨ (n : Int) ≤ x) :
    Calls Try.prog 50 #[.pointer (some ⟨h, 0, none⟩), .int .i64 x, .bool false, .bool tw] w fun e w' => e = .returned (.int .i64 2) ∧ w = w' := by
  have HC := Lib.hid c
  clear c
  go_enter Try.func50, Try.ntmps50
  go_wp2_with fail
  refine (rhas_no HC.out hx).mono ?_
  rintro e w1 ⟨rfl, rfl⟩
  go_wp2
  go_ret
  exact ⟨rfl, rfl⟩
set_option maxHeartbeats 1000000 in
theorem turn_cut_t_no (c : Rf B w h b n s lv cv) {i : Nat} (hi : i < n) (hd : (s.nd i).cut = true) :
    Calls Try.prog 50 #[.pointer (some ⟨h, 0, none⟩), .int .i64 (i : Int), .bool true, .bool true] w fun e w' => e = .returned (.int .i64 8) ∧ w = w' := by
  have hn7 := c.n7
  obtain ⟨g0, _⟩ := c.g0
  obtain ⟨p0, p1, p2, p3, _⟩ := c.at_ hi
  rw [hd] at p1
  have HC := Lib.hid c
  clear c
  go_enter Try.func50, Try.ntmps50
  go_wp2_with fail
  refine (rhas_yes HC.out hi).mono ?_
  rintro e w1 ⟨rfl, rfl⟩
  go_wp2
  go_ret
  exact ⟨rfl, rfl⟩
set_option maxHeartbeats 1000000 in
theorem turn_cut_t_ok (c : Rf B w h b n s lv cv) {i : Nat} (hi : i < n) (hd : (s.nd i).cut = false) :
    Calls Try.prog 50 #[.pointer (some ⟨h, 0, none⟩), .int .i64 (i : Int), .bool true, .bool true] w fun e w' => e = .returned (.int .i64 0) ∧ RDid B w w' h b n (setN s i { s.nd i with cut := true }) := by
  have hn7 := c.n7
  obtain ⟨g0, _⟩ := c.g0
  obtain ⟨p0, p1, p2, p3, _⟩ := c.at_ hi
  rw [hd] at p1
  have f0 := (c.nds.at_ (k := i * 5 + 1) (by omega)).2
  have c1 := c.put (i := i) (k := 1) (u := .bool true) (d := { s.nd i with cut := true }) hi rfl (c.e i hi) (rcell_set s lv (by omega) (by simp) (by simp) (by simp) (by simp))
  have d1 := c.node c1
  have HF := Lib.hid d1
  have HC := Lib.hid c
  clear c c1 d1
  go_enter Try.func50, Try.ntmps50
  go_wp2_with fail
  refine (rhas_yes HC.out hi).mono ?_
  rintro e w1 ⟨rfl, rfl⟩
  go_wp2
  go_ret
  exact ⟨rfl, HF.out⟩
set_option maxHeartbeats 1000000 in
theorem turn_cut_f_no (c : Rf B w h b n s lv cv) {i : Nat} (hi : i < n) (hd : (s.nd i).cut = false) :
    Calls Try.prog 50 #[.pointer (some ⟨h, 0, none⟩), .int .i64 (i : Int), .bool true, .bool false] w fun e w' => e = .returned (.int .i64 8) ∧ w = w' := by
  have hn7 := c.n7
  obtain ⟨g0, _⟩ := c.g0
  obtain ⟨p0, p1, p2, p3, _⟩ := c.at_ hi
  rw [hd] at p1
  have HC := Lib.hid c
  clear c
  go_enter Try.func50, Try.ntmps50
  go_wp2_with fail
  refine (rhas_yes HC.out hi).mono ?_
  rintro e w1 ⟨rfl, rfl⟩
  go_wp2
  go_ret
  exact ⟨rfl, rfl⟩
set_option maxHeartbeats 1000000 in
theorem turn_cut_f_ok (c : Rf B w h b n s lv cv) {i : Nat} (hi : i < n) (hd : (s.nd i).cut = true) :
    Calls Try.prog 50 #[.pointer (some ⟨h, 0, none⟩), .int .i64 (i : Int), .bool true, .bool false] w fun e w' => e = .returned (.int .i64 0) ∧ RDid B w w' h b n (setN s i { s.nd i with cut := false }) := by
  have hn7 := c.n7
  obtain ⟨g0, _⟩ := c.g0
  obtain ⟨p0, p1, p2, p3, _⟩ := c.at_ hi
  rw [hd] at p1
  have f0 := (c.nds.at_ (k := i * 5 + 1) (by omega)).2
  have c1 := c.put (i := i) (k := 1) (u := .bool false) (d := { s.nd i with cut := false }) hi rfl (c.e i hi) (rcell_set s lv (by omega) (by simp) (by simp) (by simp) (by simp))
  have d1 := c.node c1
  have HF := Lib.hid d1
  have HC := Lib.hid c
  clear c c1 d1
  go_enter Try.func50, Try.ntmps50
  go_wp2_with fail
  refine (rhas_yes HC.out hi).mono ?_
  rintro e w1 ⟨rfl, rfl⟩
  go_wp2
  go_ret
  exact ⟨rfl, HF.out⟩
set_option maxHeartbeats 1000000 in
theorem turn_down_t_no (c : Rf B w h b n s lv cv) {i : Nat} (hi : i < n) (hd : (s.nd i).down = true) :
    Calls Try.prog 50 #[.pointer (some ⟨h, 0, none⟩), .int .i64 (i : Int), .bool false, .bool true] w fun e w' => e = .returned (.int .i64 8) ∧ w = w' := by
  have hn7 := c.n7
  obtain ⟨g0, _⟩ := c.g0
  obtain ⟨p0, p1, p2, p3, _⟩ := c.at_ hi
  rw [hd] at p0
  have HC := Lib.hid c
  clear c
  go_enter Try.func50, Try.ntmps50
  go_wp2_with fail
  refine (rhas_yes HC.out hi).mono ?_
  rintro e w1 ⟨rfl, rfl⟩
  go_wp2
  go_ret
  exact ⟨rfl, rfl⟩
set_option maxHeartbeats 1000000 in
theorem turn_down_t_ok (c : Rf B w h b n s lv cv) {i : Nat} (hi : i < n) (hd : (s.nd i).down = false) :
    Calls Try.prog 50 #[.pointer (some ⟨h, 0, none⟩), .int .i64 (i : Int), .bool false, .bool true] w fun e w' => e = .returned (.int .i64 0) ∧ RDid B w w' h b n (setN s i { s.nd i with down := true, led := 0 }) := by
  have hn7 := c.n7
  obtain ⟨g0, _⟩ := c.g0
  obtain ⟨p0, p1, p2, p3, _⟩ := c.at_ hi
  rw [hd] at p0
  have f0 := (c.nds.at_ (k := i * 5) (by omega)).2
  have c1 := c.put (i := i) (k := 0) (u := .bool true) (d := { s.nd i with down := true }) hi rfl (c.e i hi) (rcell_set s lv (by omega) (by simp) (by simp) (by simp) (by simp))
  have d1 := c.node c1
  have f3 := (c.nds.at_ (k := i * 5 + 3) (by omega)).2
  have c2 := c1.put (i := i) (k := 3) (u := .int .i64 0) (d := { s.nd i with down := true, led := 0 }) hi (by rw [setN_at]) ⟨(c.e i hi).1, Nat.zero_le _⟩ (rcell_set _ lv (by omega) (by rw [setN_at]; simp) (by rw [setN_at]; simp) (by rw [setN_at]; simp) (by simp))
  have d2 := d1.trans (c1.node c2)
  rw [setN_two] at d2
  have HF := Lib.hid d2
  have HC := Lib.hid c
  clear c c1 d1 c2 d2
  go_enter Try.func50, Try.ntmps50
  go_wp2_with fail
  refine (rhas_yes HC.out hi).mono ?_
  rintro e w1 ⟨rfl, rfl⟩
  go_wp2
  go_ret
  exact ⟨rfl, HF.out⟩
set_option maxHeartbeats 1000000 in
theorem turn_down_f_no (c : Rf B w h b n s lv cv) {i : Nat} (hi : i < n) (hd : (s.nd i).down = false) :
    Calls Try.prog 50 #[.pointer (some ⟨h, 0, none⟩), .int .i64 (i : Int), .bool false, .bool false] w fun e w' => e = .returned (.int .i64 8) ∧ w = w' := by
  have hn7 := c.n7
  obtain ⟨g0, _⟩ := c.g0
  obtain ⟨p0, p1, p2, p3, _⟩ := c.at_ hi
  rw [hd] at p0
  have HC := Lib.hid c
  clear c
  go_enter Try.func50, Try.ntmps50
  go_wp2_with fail
  refine (rhas_yes HC.out hi).mono ?_
  rintro e w1 ⟨rfl, rfl⟩
  go_wp2
  go_ret
  exact ⟨rfl, rfl⟩
set_option maxHeartbeats 1000000 in
theorem turn_down_f_ok (c : Rf B w h b n s lv cv) {i : Nat} (hi : i < n) (hd : (s.nd i).down = true) :
    Calls Try.prog 50 #[.pointer (some ⟨h, 0, none⟩), .int .i64 (i : Int), .bool false, .bool false] w fun e w' => e = .returned (.int .i64 0) ∧ RDid B w w' h b n (setN s i { s.nd i with down := false, led := 0 }) := by
  have hn7 := c.n7
  obtain ⟨g0, _⟩ := c.g0
  obtain ⟨p0, p1, p2, p3, _⟩ := c.at_ hi
  rw [hd] at p0
  have f0 := (c.nds.at_ (k := i * 5) (by omega)).2
  have c1 := c.put (i := i) (k := 0) (u := .bool false) (d := { s.nd i with down := false }) hi rfl (c.e i hi) (rcell_set s lv (by omega) (by simp) (by simp) (by simp) (by simp))
  have d1 := c.node c1
  have f3 := (c.nds.at_ (k := i * 5 + 3) (by omega)).2
  have c2 := c1.put (i := i) (k := 3) (u := .int .i64 0) (d := { s.nd i with down := false, led := 0 }) hi (by rw [setN_at]) ⟨(c.e i hi).1, Nat.zero_le _⟩ (rcell_set _ lv (by omega) (by rw [setN_at]; simp) (by rw [setN_at]; simp) (by rw [setN_at]; simp) (by simp))
  have d2 := d1.trans (c1.node c2)
  rw [setN_two] at d2
  have HF := Lib.hid d2
  have HC := Lib.hid c
  clear c c1 d1 c2 d2
  go_enter Try.func50, Try.ntmps50
  go_wp2_with fail
  refine (rhas_yes HC.out hi).mono ?_
  rintro e w1 ⟨rfl, rfl⟩
  go_wp2
  go_ret
  exact ⟨rfl, HF.out⟩
end
end Rp
end Go.Proofs.Ytdbpbpnbcjbchaa
