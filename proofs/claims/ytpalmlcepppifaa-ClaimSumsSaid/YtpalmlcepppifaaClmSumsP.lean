/- An argument of type [][3]uint16, opened; the sums of several prizes of a ticket. -/
import Derived.Test.YtpalmlcepppifaaClmPair
set_option linter.unusedVariables false
namespace Go.Proofs.Ytpalmlcepppifaa
open Go.ChangeShapes Go.WideShapes Go.RowKit Go.Joins Go.Deep

/-- Three small numbers. -/
structure T3 where
  (x y z : Int)
instance : Inhabited T3 := ⟨⟨0, 0, 0⟩⟩
def t3C (a : T3) : Array Value := #[.int .u16 a.x, .int .u16 a.y, .int .u16 a.z]
def Tri (R : Nat → T3) : Nat → Value := fun j => (t3C (R (j / 3))).getD (j % 3) (.bool false)
theorem Tri_at (R : Nat → T3) (k i : Nat) (hi : i < 3) : Tri R (k * 3 + i) = (t3C (R k)).getD i (.bool false) := by
  unfold Tri
  rw [show (k * 3 + i) / 3 = k by omega, show (k * 3 + i) % 3 = i by omega]
theorem Cells.tri {w : World} {D : Option Addr} {n : Nat} {R : Nat → T3} (h : Cells w D (n * 3) (Tri R)) {k : Nat} (hk : k < n) :
    ∃ b off, D = some ⟨b, off, none⟩ ∧ b < w.heap.size ∧ w.cell? ⟨b, off + k * 3, none⟩ = some (.int .u16 (R k).x) ∧ w.cell? ⟨b, off + k * 3 + 1, none⟩ = some (.int .u16 (R k).y) ∧ w.cell? ⟨b, off + k * 3 + 2, none⟩ = some (.int .u16 (R k).z) := by
  obtain ⟨b, off, e, hlt, hc⟩ := h (by omega)
  exact ⟨b, off, e, hlt, (hc (k * 3) (by omega)).trans (by rw [show k * 3 = k * 3 + 0 by omega, Tri_at R k 0 (by omega)]; rfl), (hc (k * 3 + 1) (by omega)).trans (by rw [Tri_at R k 1 (by omega)]; rfl), (hc (k * 3 + 2) (by omega)).trans (by rw [Tri_at R k 2 (by omega)]; rfl)⟩
set_option maxRecDepth 100000 in
theorem open_threes {H : Type} {enc : TypeId × Value → H} {W : World} {base : Nat} {v : Value} {d : DataW H} {p : List MemPlace}
    (hv : Value.okWide Try.prog W .any base 57 v) (hj : DataW.Trod enc Try.prog W 0 (fun _ => true) true 57 v d p) :
    ∃ (A : Option Addr) (n c : Nat) (R : Nat → T3), v = .slice A n c ∧ n ≤ c ∧ c ≤ maxLen ∧ Cells W A (n * 3) (Tri R) ∧ ∀ i, i < n → (0 ≤ (R i).x ∧ (R i).x ≤ 65535) ∧ (0 ≤ (R i).y ∧ (R i).y ≤ 65535) ∧ (0 ≤ (R i).z ∧ (R i).z ≤ 65535) := by
  obtain ⟨a0, len, cap, rfl⟩ := okWide_slice Try.underlying57 hv
  obtain ⟨fuel, hf⟩ := hj
  rcases open_slice Try.underlying57 hf with h0 | ⟨a, l, c, m, n, D, Pl, hcs, hb, hl, hc, hmm, hx, hi⟩
  · have hcs := h0.1
    simp [Value.cells] at hcs
    obtain ⟨rfl, rfl, rfl⟩ := hcs
    exact ⟨none, 0, 0, fun _ => default, rfl, Nat.le_refl _, Nat.zero_le _, Cells.nil, fun i hi => absurd hi (by omega)⟩
  · simp [Value.cells] at hcs
    obtain ⟨rfl, rfl, rfl⟩ := hcs
    have h3c : Try.prog.cellsOf 58 = 3 := by kernel_rfl
    have h1c : Try.prog.cellsOf 23 = 1 := by kernel_rfl
    have key : ∀ i, i < len → ∃ x : T3, (∀ j, j < 3 → W.cell? (a.add (i * 3 + j)) = some ((t3C x).getD j (.bool false))) ∧ (0 ≤ x.x ∧ x.x ≤ 65535) ∧ (0 ≤ x.y ∧ x.y ≤ 65535) ∧ (0 ≤ x.z ∧ x.z ≤ 65535) := by
      intro i hil
      obtain ⟨cs', hc', ht'⟩ := hi i (by rw [hmm]; simp; omega)
      rw [h3c] at hc'
      obtain ⟨_, hcl, hat⟩ := World.cells?_some hc'
      obtain ⟨xs, n', _, _, _, hlen, hg⟩ := DataW.trod_array Try.underlying58 ht'
      match cs', hcl with
      | [c0, c1, c2], _ =>
        have h0 := hg 0 (by omega)
        have h1 := hg 1 (by omega)
        have h2 := hg 2 (by omega)
        simp [h1c] at h0 h1 h2
        match xs, hlen with
        | [y0, y1, y2], _ =>
          obtain ⟨x0, e0, _, w0⟩ := DataW.trod_int (x := y0) Try.underlying23 (by simpa using h0)
          obtain ⟨x1, e1, _, w1⟩ := DataW.trod_int (x := y1) Try.underlying23 (by simpa using h1)
          obtain ⟨x2, e2, _, w2⟩ := DataW.trod_int (x := y2) Try.underlying23 (by simpa using h2)
          simp at e0 e1 e2
          subst e0 e1 e2
          refine ⟨⟨x0, x1, x2⟩, fun j hj => ?_, wf_at_u16 w0, wf_at_u16 w1, wf_at_u16 w2⟩
          have := hat (i := j) (by omega)
          rw [← Go.Deep.add_add, this]
          match j, hj with
          | 0, _ => rfl
          | 1, _ => rfl
          | 2, _ => rfl
    obtain ⟨f, hfr⟩ := pick key
    refine ⟨some a, len, cap, f, rfl, hl, hc, Cells.mk_ fun j hj => ?_, fun i hi => (hfr i hi).2⟩
    have hs := (hfr (j / 3) (by omega)).1 (j % 3) (Nat.mod_lt _ (by omega))
    rw [show j / 3 * 3 + j % 3 = j by omega] at hs
    exact hs

def eu : ByteArray := ⟨#[117]⟩
namespace Cm
theorem lsum_congr {p q : Nat → Bool} {A B : Nat → Int} {l : List Nat} (h : ∀ i ∈ l, p i = q i ∧ A i = B i) : lsum p A l = lsum q B l := by
  unfold lsum
  congr 1
  exact List.map_congr_left fun i hi => by rw [(h i hi).1, (h i hi).2]
/-- What one more prize adds to a ticket's sum. -/
theorem lsum_add {A F E S : Nat → Int} {N : Nat → ByteArray} {s s2 : ByteArray} {at_ a f t : Int} {n : Nat} :
    lsum (can (upd F n f) (upd E n t) (upd S n 0) at_) (upd A n a) (idx (upd N n s2) s (n + 1)) = lsum (can F E S at_) A (idx N s n) + if s2.data.toList = s.data.toList ∧ f ≤ at_ ∧ at_ ≤ t then a else 0 := by
  have hi : idx (upd N n s2) s n = idx N s n := idx_congr fun i hi => upd_ne _ _ (by omega)
  have hl : lsum (can (upd F n f) (upd E n t) (upd S n 0) at_) (upd A n a) (idx N s n) = lsum (can F E S at_) A (idx N s n) := lsum_congr fun i hi => by
    have := idx_lt hi
    unfold can
    rw [upd_ne F _ (by omega), upd_ne E _ (by omega), upd_ne S _ (by omega), upd_ne A _ (by omega)]
    exact ⟨rfl, rfl⟩
  simp only [idx]
  rw [upd_same, hi]
  by_cases e : s2.data.toList = s.data.toList
  · rw [if_pos e, lsum_snoc, hl, upd_same]
    have hc : can (upd F n f) (upd E n t) (upd S n 0) at_ n = (decide (f ≤ at_) && decide (at_ ≤ t)) := by
      unfold can; rw [upd_same, upd_same, upd_same]; simp
    rw [hc]
    by_cases c : f ≤ at_ ∧ at_ ≤ t
    · rw [if_pos (by simp [c.1, c.2]), if_pos ⟨e, c.1, c.2⟩]
    · rw [if_neg (by simp; intro h1; have : ¬ at_ ≤ t := fun h2 => c ⟨h1, h2⟩; omega), if_neg (fun h => c ⟨h.2.1, h.2.2⟩)]
  · rw [if_neg e, hl, if_neg (fun h => e h.1), Int.add_zero]
theorem lsum_none {p : Nat → Bool} {A : Nat → Int} : ∀ {l : List Nat}, (∀ i ∈ l, 1 ≤ A i) → (lsum p A l = 0 ∧ l.any p = false) ∨ (0 < lsum p A l ∧ l.any p = true) := by
  intro l
  induction l with
  | nil => intro _; left; exact ⟨rfl, rfl⟩
  | cons x l ih =>
    intro h
    have h1 := ih (fun i hi => h i (List.mem_cons_of_mem _ hi))
    have h2 := h x (List.mem_cons_self ..)
    unfold lsum at h1 ⊢
    simp only [List.map_cons, List.sum_cons, List.any_cons]
    cases hp : p x
    · simpa using h1
    · right
      simp
      rcases h1 with h1 | h1 <;> omega
end Cm
/-- Behind k rounds of the law. -/
structure Smm (k n : Nat) (N : Nat → ByteArray) (A F E S : Nat → Int) (at_ all want : Int) : Prop where
  nk : n = 2 * k
  wa : Cm.lsum (Cm.can F E S at_) A (idx N et n) = want
  s0 : Cm.psum A S 0 n = all + 7 * k
  s1 : Cm.psum A S 1 n = 0
  s2 : Cm.psum A S 2 n = 0
  am : ∀ i, i < n → 1 ≤ A i
  w0 : 0 ≤ want ∧ want ≤ k * 65536
  a0 : 0 ≤ all ∧ all ≤ k * 65536
theorem Smm.next {k n : Nat} {N : Nat → ByteArray} {A F E S : Nat → Int} {at_ all want a f t : Int} (h : Smm k n N A F E S at_ all want) (a0 : 1 ≤ a) (a1 : a ≤ 65536) {want' : Int} (hw : want' = if f ≤ at_ ∧ at_ ≤ t then want + a else want) :
    Smm (k + 1) (n + 1 + 1) (upd (upd N n et) (n + 1) eu) (upd (upd A n a) (n + 1) 7) (upd (upd F n f) (n + 1) 0) (upd (upd E n t) (n + 1) 9) (upd (upd S n 0) (n + 1) 0) at_ (all + a) want' := by
  refine ⟨by have := h.nk; omega, ?_, ?_, ?_, ?_, fun i hi => ?_, ?_, ?_⟩
  · have e1 : (if eu.data.toList = et.data.toList ∧ 0 ≤ at_ ∧ at_ ≤ 9 then (7 : Int) else 0) = 0 := if_neg (by rintro ⟨h1, _⟩; revert h1; decide)
    rw [Cm.lsum_add, Cm.lsum_add, h.wa, e1, hw]
    by_cases c : f ≤ at_ ∧ at_ ≤ t
    · rw [if_pos c, if_pos ⟨rfl, c.1, c.2⟩, Int.add_zero]
    · rw [if_neg c, if_neg (fun h => c h.2), Int.add_zero, Int.add_zero]
  · rw [Cm.psum_add, Cm.psum_add, h.s0]; simp; omega
  · rw [Cm.psum_add, Cm.psum_add, h.s1]; simp
  · rw [Cm.psum_add, Cm.psum_add, h.s2]; simp
  · by_cases e1 : i = n + 1
    · subst e1; rw [upd_same]; decide
    · rw [upd_ne _ _ e1]
      by_cases e2 : i = n
      · subst e2; rw [upd_same]; exact a0
      · rw [upd_ne _ _ e2]; exact h.am i (by omega)
  · have := h.w0; rw [hw]; split <;> omega
  · have := h.a0; omega
end Go.Proofs.Ytpalmlcepppifaa
