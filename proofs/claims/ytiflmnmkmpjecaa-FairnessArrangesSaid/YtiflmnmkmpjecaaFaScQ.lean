/- Two growing rows of one's own; lists that are scaled or doubled are good. -/
import Derived.Test.YtiflmnmkmpjecaaFaScP
import Derived.Test.YtiflmnmkmpjecaaFrRSums
import Derived.Deep.AppendLies
set_option linter.unusedVariables false
namespace Go.Proofs.Ytiflmnmkmpjecaa
open Go.RowKit
namespace Fa
open Fr
theorem Try.infoI : (Try.prog.info? 3).map (fun i => (i.zero, i.size, i.bytes)) = some (some (.int .i64 0), 1, 8) := by kernel_rfl
theorem own_grow {B : Nat} {w w' : World} {e : TypeId} {size : Nat} {v : Value} {n : Nat} {xs : List Value} {r : Option Nat} (h : w.ownsRow B e size v n xs) (hg : w.grownBy w' r) (hd : ∀ g, v.ownBlock = some g → r ≠ some g) : w'.ownsRow B e size v n xs :=
  h.kept hg (by
    cases hv : v.ownBlock with
    | none => exact .inl rfl
    | some k => exact .inr fun e => hd k hv (by rw [← e]))
/-- Two rows of one's own in different blocks. -/
def Dis (u v : Value) : Prop := ∀ g, u.ownBlock = some g → v.ownBlock ≠ some g
theorem new_cell2 {w : World} {cs : Array Value} {t : TypeId} {g j : Nat} {v : Value} (o : Obj) (hg : g = w.heap.size) (h : cs[j]? = some v) : ((w.alloc (.cells cs t)).alloc o).cell? ((⟨g, 0, none⟩ : Addr).add j) = some v := by
  have h1 := new_cell hg h (t := t)
  rw [World.cell?_alloc_lt]
  · exact h1
  · have e : ((⟨g, 0, none⟩ : Addr).add j).block = g := by unfold Addr.add; split <;> rfl
    rw [e, hg, World.size_alloc]
    omega
/-- Two growing rows of one's own. -/
structure RowsS (wa u : World) (v1 : Value) (k1 : Nat) (x1 : List Value) (v2 : Value) (k2 : Nat) (x2 : List Value) : Prop where
  own1 : u.ownsRow wa.heap.size 3 1 v1 k1 x1
  own2 : u.ownsRow wa.heap.size 3 1 v2 k2 x2
  dis : Dis v1 v2
  bel : Hid (Below wa.heap.size wa u)
section
variable {wa u u' : World} {v1 v2 : Value} {k1 k2 : Nat} {x1 x2 y : List Value}
theorem RowsS.on (h : RowsS wa u v1 k1 x1 v2 k2 x2) (hb : Below u.heap.size u u') : RowsS wa u' v1 k1 x1 v2 k2 x2 := ⟨own_keep h.own1 hb, own_keep h.own2 hb, h.dis, Lib.hid (Below.on h.bel.out hb)⟩
theorem RowsS.alloc (h : RowsS wa u v1 k1 x1 v2 k2 x2) (o : Obj) : RowsS wa (u.alloc o) v1 k1 x1 v2 k2 x2 := h.on (bl_al o)
theorem RowsS.drew (h : RowsS wa u v1 k1 x1 v2 k2 x2) : RowsS wa u.drew v1 k1 x1 v2 k2 x2 := h.on (Below.refl _ _).drew
theorem RowsS.step1 (h : RowsS wa u v1 k1 x1 v2 k2 x2) {g k cap : Nat} (ho : u'.ownsRow wa.heap.size 3 1 (.slice (some ⟨g, 0, none⟩) k cap) k y) (hg : u.grownBy u' v1.ownBlock) (hat : v1.ownBlock = some g ∨ g = u.heap.size) : RowsS wa u' (.slice (some ⟨g, 0, none⟩) k cap) k y v2 k2 x2 := by
  refine ⟨ho, own_grow h.own2 hg fun b hb e => h.dis b e hb, fun b hb e => ?_, Lib.hid (own_below h.bel.out h.own1 h.bel.out.size hg)⟩
  obtain rfl : g = b := by simpa [Value.ownBlock] using hb
  rcases hat with hat | hat
  · exact h.dis g hat e
  · have := (h.own2.lt g e).2; omega
theorem RowsS.step2 (h : RowsS wa u v1 k1 x1 v2 k2 x2) {g k cap : Nat} (ho : u'.ownsRow wa.heap.size 3 1 (.slice (some ⟨g, 0, none⟩) k cap) k y) (hg : u.grownBy u' v2.ownBlock) (hat : v2.ownBlock = some g ∨ g = u.heap.size) : RowsS wa u' v1 k1 x1 (.slice (some ⟨g, 0, none⟩) k cap) k y := by
  refine ⟨own_grow h.own1 hg fun b hb e => h.dis b hb e, ho, fun b hb e => ?_, Lib.hid (own_below h.bel.out h.own2 h.bel.out.size hg)⟩
  obtain rfl : g = b := by simpa [Value.ownBlock] using e
  rcases hat with hat | hat
  · exact h.dis g hb hat
  · have := (h.own1.lt g hb).2; omega
end
theorem one_new {w : World} {g : Nat} {v : Value} (h : w.cell? ⟨g, 0, none⟩ = some v) : ∀ (j : Nat) (u : Value), [v][j]? = some u → w.cell? ((⟨g, 0, none⟩ : Addr).add j) = some u := fun j u hu => by
  match j, hu with
  | 0, hu =>
    have : u = v := by simpa using hu.symm
    subst this
    exact h
theorem rgo_mk {o p : Nat → Int} : ∀ {n}, (∀ i, i < n → 0 ≤ o i ∧ o i ≤ 1000000 ∧ 0 ≤ p i ∧ p i ≤ 1000000) → rgo o p n = true
  | 0, _ => rfl
  | n + 1, h => by rw [rgo, rgo_mk fun i hi => h i (by omega), decide_eq_true (h n (by omega))]; rfl
theorem zr_mk {p : Nat → Int} : ∀ {n}, (∀ i, i < n → p i ≠ 0) → zr p n = false
  | 0, _ => rfl
  | n + 1, h => by rw [zr, zr_mk fun i hi => h i (by omega)]; simpa using h n (by omega)
theorem nsum_cg {f g : Nat → Nat} : ∀ {n}, (∀ i, i < n → f i = g i) → nsum f n = nsum g n
  | 0, _ => rfl
  | n + 1, h => by rw [nsum, nsum, nsum_cg fun i hi => h i (by omega), h n (by omega)]
theorem SN_cg {o p o' p' : Nat → Nat} : ∀ {n}, (∀ i, i < n → o i = o' i ∧ p i = p' i) → SN o p n = SN o' p' n
  | 0, _ => rfl
  | n + 1, h => by rw [SN, SN, SN_cg fun i hi => h i (by omega), (h n (by omega)).1, (h n (by omega)).2]
theorem c_cg {o p o' p' : Nat → Nat} {n : Nat} (h : ∀ i, i < n → o i = o' i ∧ p i = p' i) : cN o p n = cN o' p' n ∧ cD o p n = cD o' p' n := by
  unfold cN cD
  rw [SN_cg h, nsum_cg fun i hi => (h i hi).1, nsum_cg fun i hi => (h i hi).2]
  exact ⟨rfl, rfl⟩
theorem Good.twice {n : Nat} {o p : Nat → Int} (g : Good n o p) (h : ∀ i, i < n → nt o i ≤ 200000 ∧ nt p i ≤ 200000) : Good n (fun i => 2 * o i) p where
  n0 := g.n0
  go := rgo_mk fun i hi => by have := g.oi hi; have := g.pi hi; have := h i hi; omega
  zr := g.zr
  sm := by
    rw [sm_nsum fun i hi => by have := g.oi hi; omega, nsum_cg (g := fun i => 2 * nt o i) fun i hi => by have := g.oi hi; unfold nt at *; omega, nsum_two]
    have := g.so0
    omega
theorem Good.more {n : Nat} {o p : Nat → Int} (g : Good n o p) {c : Nat} (hc : 1 ≤ c) (hc5 : c ≤ 5) (h : ∀ i, i < n → nt o i ≤ 200000 ∧ nt p i ≤ 200000) : Good n o (fun i => p i * c) where
  n0 := g.n0
  go := rgo_mk fun i hi => by
    have h1 := g.oi hi
    have h2 := g.pi hi
    have h3 := h i hi
    have h4 : nt p i * c ≤ 200000 * 5 := Nat.mul_le_mul h3.2 hc5
    have h5 : p i * (c : Int) = ((nt p i * c : Nat) : Int) := by rw [h2.1, Int.natCast_mul, ← h2.1]
    rw [h5]
    omega
  zr := zr_mk fun i hi => by
    have h2 := g.pi hi
    have h5 : p i * (c : Int) = ((nt p i * c : Nat) : Int) := by rw [h2.1, Int.natCast_mul, ← h2.1]
    have : 0 < nt p i * c := Nat.mul_pos h2.2.1 (by omega)
    show p i * (c : Int) ≠ 0
    omega
  sm := g.sm
theorem nt_two {n : Nat} {o p : Nat → Int} (g : Good n o p) {i : Nat} (hi : i < n) : nt (fun i => 2 * o i) i = 2 * nt o i := by
  have h := (rgo_at g.go hi).1
  show (2 * o i).toNat = 2 * (o i).toNat
  omega
theorem nt_more {n : Nat} {o p : Nat → Int} (g : Good n o p) (c : Nat) {i : Nat} (hi : i < n) : nt (fun i => p i * c) i = nt p i * c := by
  have h := (g.pi hi).1
  show (p i * (c : Int)).toNat = nt p i * c
  rw [h, ← Int.natCast_mul]
  rfl
theorem chi_gw {W : World} {A B : Option Addr} {n c c' : Nat} {o p : Nat → Int} {a b : Nat} (hn : n ≤ 12) (hA : Cells W A n (Iv o)) (hB : Cells W B n (Iv p)) (g : Good n o p) (ha : a = cN (nt o) (nt p) n / Nat.gcd (cN (nt o) (nt p) n) (cD (nt o) (nt p) n)) (hb : b = cD (nt o) (nt p) n / Nat.gcd (cN (nt o) (nt p) n) (cD (nt o) (nt p) n)) :
    ∀ w', Below W.heap.size W w' → Calls Try.prog 15 #[.slice A n c, .slice B n c'] w' fun e w'' => Gw w'' e a b 0 ∧ Below w'.heap.size w' w'' := fun w' hw => by
  refine (chi_says hn hA hB g w' hw).mono ?_
  rintro e w'' ⟨h, hb'⟩
  exact ⟨Gw.rs h ha hb, hb'⟩
theorem Good.cD0 {n : Nat} {o p : Nat → Int} (g : Good n o p) : 0 < cD (nt o) (nt p) n := Nat.mul_pos (SN_pos fun i hi => (g.pi hi).2.1) g.so0
theorem more_red {n : Nat} {o p : Nat → Int} (g : Good n o p) {c : Nat} (hc : 1 ≤ c) {P : Nat → Nat} (hP : P = nt (fun i => p i * c)) :
    cN (nt o) (nt p) n / Nat.gcd (cN (nt o) (nt p) n) (cD (nt o) (nt p) n) = cN (nt o) P n / Nat.gcd (cN (nt o) P n) (cD (nt o) P n) ∧ cD (nt o) (nt p) n / Nat.gcd (cN (nt o) (nt p) n) (cD (nt o) (nt p) n) = cD (nt o) P n / Nat.gcd (cN (nt o) P n) (cD (nt o) P n) := by
  have e := c_cg (n := n) (o := nt o) (o' := nt o) (p := P) (p' := fun i => nt p i * c) fun i hi => ⟨rfl, by rw [hP]; exact nt_more g c hi⟩
  rw [e.1, e.2]
  refine red_eq g.cD0 (Nat.mul_pos (SN_pos fun i hi => Nat.mul_pos (g.pi hi).2.1 hc) g.so0) (c_scale (nt o) (nt p) c n).symm
theorem two_red {n : Nat} {o p : Nat → Int} (g : Good n o p) {p1 q1 : Nat} {O : Nat → Nat} (hO : O = nt (fun i => 2 * o i)) (h1 : p1 = cN (nt o) (nt p) n / Nat.gcd (cN (nt o) (nt p) n) (cD (nt o) (nt p) n)) (h2 : q1 = cD (nt o) (nt p) n / Nat.gcd (cN (nt o) (nt p) n) (cD (nt o) (nt p) n)) :
    (p1 * q1 + p1 * q1) / Nat.gcd (p1 * q1 + p1 * q1) (q1 * q1) = cN O (nt p) n / Nat.gcd (cN O (nt p) n) (cD O (nt p) n) ∧ q1 * q1 / Nat.gcd (p1 * q1 + p1 * q1) (q1 * q1) = cD O (nt p) n / Nat.gcd (cN O (nt p) n) (cD O (nt p) n) := by
  have e := c_cg (n := n) (o := O) (o' := fun i => 2 * nt o i) (p := nt p) (p' := nt p) fun i hi => ⟨by rw [hO]; exact nt_two g hi, rfl⟩
  have t := c_two (nt o) (nt p) n
  rw [e.1, e.2, t.1, t.2]
  have hr : Rep p1 q1 (cN (nt o) (nt p) n) (cD (nt o) (nt p) n) := by rw [h1, h2]; exact Rep.red g.cD0
  have hd := g.cD0
  refine red_eq (Nat.mul_pos hr.y0 hr.y0) (by omega) ?_
  have h := hr.eq
  generalize cN (nt o) (nt p) n = N at *
  generalize cD (nt o) (nt p) n = D at *
  clear h1 h2 hr
  have h3 : p1 * D * (4 * q1) = N * q1 * (4 * q1) := by rw [h]
  clear h
  grind
theorem zero_red {n : Nat} {o p : Nat → Int} (g : Good n o p) {p1 q1 : Nat} (h1 : p1 = cN (nt o) (nt p) n / Nat.gcd (cN (nt o) (nt p) n) (cD (nt o) (nt p) n)) (h2 : q1 = cD (nt o) (nt p) n / Nat.gcd (cN (nt o) (nt p) n) (cD (nt o) (nt p) n)) :
    (decide (p1 = 0) && decide (q1 = 1)) = ex (nt o) (nt p) (nsum (nt o) n) (nsum (nt p) n) n := by
  have hz := cN_zero (o := nt o) (p := nt p) (n := n) (fun i hi => (g.pi hi).2.1) g.so0 g.sp0
  have hr : Rep p1 q1 (cN (nt o) (nt p) n) (cD (nt o) (nt p) n) := by rw [h1, h2]; exact Rep.red g.cD0
  have hd := g.cD0
  have h := hr.eq
  cases e : ex (nt o) (nt p) (nsum (nt o) n) (nsum (nt p) n) n with
  | true =>
    have e0 := hz.2 e
    rw [e0, Nat.gcd_zero_left] at h2
    rw [e0, Nat.zero_mul] at h
    have e1 : q1 = 1 := by rw [h2, Nat.div_self hd]
    have e2 : p1 = 0 := by
      rcases Nat.mul_eq_zero.1 h with h3 | h3
      · exact h3
      · omega
    simp [e1, e2]
  | false =>
    have : p1 ≠ 0 := fun e2 => by
      rw [e2, Nat.zero_mul] at h
      have h3 : cN (nt o) (nt p) n = 0 := by
        rcases Nat.mul_eq_zero.1 h.symm with h3 | h3
        · exact h3
        · have := hr.y0; omega
      rw [hz.1 h3] at e
      cases e
    simp [this]
theorem size_red {n : Nat} {o p : Nat → Int} (hn : n ≤ 12) (g : Good n o p) {p1 q1 : Nat} (h1 : p1 = cN (nt o) (nt p) n / Nat.gcd (cN (nt o) (nt p) n) (cD (nt o) (nt p) n)) (h2 : q1 = cD (nt o) (nt p) n / Nat.gcd (cN (nt o) (nt p) n) (cD (nt o) (nt p) n)) :
    fits_add p1 q1 p1 q1 ∧ fok p1 q1 = true ∧ L32 p1 ≤ 64 ∧ L32 q1 ≤ 64 := by
  obtain ⟨s1, s2⟩ := c_size (o := nt o) (p := nt p) hn fun i hi => ⟨(g.oi hi).2, (g.pi hi).2⟩
  have f1 : Fit32 p1 11 := by rw [h1]; exact Nat.lt_of_le_of_lt (Nat.div_le_self _ _) s1
  have f2 : Fit32 q1 9 := by rw [h2]; exact Nat.lt_of_le_of_lt (Nat.div_le_self _ _) s2
  have g1 : Fit32 (p1 * q1) 20 := fit32_mul f1 f2
  have g2 : Fit32 (q1 * q1) 18 := fit32_mul f2 f2
  have g3 := fit_add g1 g1
  refine ⟨⟨Nat.le_trans (fit32_le g1) (by omega), Nat.le_trans (fit32_le g1) (by omega), Nat.le_trans (fit32_le g2) (by omega), Nat.le_trans (fit32_le g3) (by omega)⟩, by rw [h1, h2]; exact fok_low g.cD0, Nat.le_trans (fit32_le f1) (by omega), Nat.le_trans (fit32_le f2) (by omega)⟩
theorem out_res {B : Nat} {w' : World} {e : Ending} {fits : Prop} {a b : Nat} (h : Out B w' e fits a b) (hf : fits) : Res B w' e a b := by
  rcases h with ⟨_, h⟩ | ⟨h, _⟩
  · exact h
  · exact absurd hf h
end Fa
end Go.Proofs.Ytiflmnmkmpjecaa
