/- Every call on a group in one contract: what it answers, and the state behind it. -/
import Derived.Test.YtdbpbpnbcjbchaaRepLeadOk
import Derived.Test.YtdbpbpnbcjbchaaRepTurn
import Derived.Test.YtdbpbpnbcjbchaaRepEpoch
set_option linter.unusedVariables false
namespace Go.Proofs.Ytdbpbpnbcjbchaa
open Go.RowKit
namespace Rp
def inr (n : Nat) (x : Int) : Prop := 0 ≤ x ∧ x < (n : Int)
instance (n : Nat) (x : Int) : Decidable (inr n x) := by unfold inr; exact inferInstance
theorem inr_no {n : Nat} {x : Int} (h : ¬ inr n x) : x < 0 ∨ (n : Int) ≤ x := by unfold inr at h; omega
theorem inr_yes {n : Nat} {x : Int} (h : inr n x) : x = ((x.toNat : Nat) : Int) ∧ x.toNat < n := by unfold inr at h; omega
def leadO (n : Nat) (s : St) (x : Int) : Nat × St := if ¬ inr n x then (2, s) else if (s.nd x.toNat).down = true then (8, s) else if (s.nd x.toNat).cut = true then (25, s) else if 2 * rcnt s n ≤ n then (23, s) else (0, ledS s n x.toNat (gr s n + 1) ((bst s n).getD 0))
def propO (n : Nat) (s : St) (x : Int) (t : ByteArray) : Nat × Nat × St := if ¬ inr n x then (0, 2, s) else if ldr (s.nd x.toNat) = false then (0, 8, s) else ((s.nd x.toNat).log.length + 1, 0, upd n (pushed s x.toNat t) x.toNat)
def copyO (n : Nat) (s : St) (x y : Int) : Nat × St := if ¬ inr n x ∨ ¬ inr n y then (2, s) else if cpe s x.toNat y.toNat ≠ 0 then (cpe s x.toNat y.toNat, s) else (0, upd n (copied s x.toNat y.toNat) x.toNat)
def failO (n : Nat) (s : St) (x : Int) : Nat × St := if ¬ inr n x then (2, s) else if (s.nd x.toNat).down = true then (8, s) else (0, setN s x.toNat { s.nd x.toNat with down := true, led := 0 })
def restartO (n : Nat) (s : St) (x : Int) : Nat × St := if ¬ inr n x then (2, s) else if (s.nd x.toNat).down = false then (8, s) else (0, setN s x.toNat { s.nd x.toNat with down := false })
def cutO (n : Nat) (s : St) (x : Int) : Nat × St := if ¬ inr n x then (2, s) else if (s.nd x.toNat).cut = true then (8, s) else (0, setN s x.toNat { s.nd x.toNat with cut := true })
def joinO (n : Nat) (s : St) (x : Int) : Nat × St := if ¬ inr n x then (2, s) else if (s.nd x.toNat).cut = false then (8, s) else (0, setN s x.toNat { s.nd x.toNat with cut := false })
/-- The bounds of a state. -/
structure Lim (s : St) (K : Nat) : Prop where
  log : ∀ i, (s.nd i).log.length ≤ K
  ep : ∀ i, (s.nd i).ep ≤ K
  done : s.done.length ≤ K
theorem Obj.did {B : Nat} {w w' : World} {h n : Nat} {s : St} (o : Obj B w h n s) (hd : Dn w w') : Did B w w' h n s := by
  obtain ⟨lv, cv, c⟩ := o; exact c.drawn hd
theorem dn_of {w w' : World} (h : w = w') : Dn w w' := by subst h; exact Dn.refl _
theorem lead_all {B : Nat} {w : World} {h n K : Nat} {s : St} (o : Obj B w h n s) (hL : Lim s K) (hK : K ≤ 1000) (x : Int) :
    Calls Try.prog 11 #[.pointer (some ⟨h, 0, none⟩), .int .i64 x] w fun e w' => e = .returned (.int .i64 ((leadO n s x).1 : Int)) ∧ Did B w w' h n (leadO n s x).2 := by
  obtain ⟨lv, cv, c⟩ := o
  unfold leadO
  by_cases h0 : inr n x
  · rw [if_neg (fun q => q h0)]
    obtain ⟨hx, hi⟩ := inr_yes h0
    generalize x.toNat = i at hx hi ⊢
    subst hx
    by_cases h1 : (s.nd i).down = true
    · rw [if_pos h1]
      exact (lead_down c hi h1).mono fun e w' ⟨h2, h3⟩ => ⟨h2, c.drawn h3⟩
    · rw [if_neg h1]
      have h1' : (s.nd i).down = false := by simpa using h1
      by_cases h2 : (s.nd i).cut = true
      · rw [if_pos h2]
        exact (lead_cut c hi h1' h2).mono fun e w' ⟨h2, h3⟩ => ⟨h2, c.drawn h3⟩
      · rw [if_neg h2]
        have h2' : (s.nd i).cut = false := by simpa using h2
        by_cases h3 : 2 * rcnt s n ≤ n
        · rw [if_pos h3]
          exact (lead_q c hi h1' h2' h3).mono fun e w' ⟨h2, h3⟩ => ⟨h2, c.drawn h3⟩
        · rw [if_neg h3]
          cases hb : bst s n with
          | none => have := bst_none s n hb; omega
          | some b =>
            exact lead_ok c hi h1' h2' (by omega) hb (by have := gr_le s K n (fun i _ => hL.ep i); omega)
  · rw [if_pos h0]
    exact (lead_bad c (inr_no h0)).mono fun e w' ⟨h2, h3⟩ => ⟨h2, c.drawn h3⟩
theorem prop_all {B : Nat} {w : World} {h n K : Nat} {s : St} (o : Obj B w h n s) (hL : Lim s K) (hK : K ≤ 1000) (x : Int) {t : ByteArray} (ht : t.size ≤ 20) :
    Calls Try.prog 12 #[.pointer (some ⟨h, 0, none⟩), .int .i64 x, .string t] w fun e w' => e = .returned (.tuple #[.int .i64 ((propO n s x t).1 : Int), .int .i64 ((propO n s x t).2.1 : Int)]) ∧ Did B w w' h n (propO n s x t).2.2 := by
  obtain ⟨lv, cv, c⟩ := o
  unfold propO
  by_cases h0 : inr n x
  · rw [if_neg (fun q => q h0)]
    obtain ⟨hx, hi⟩ := inr_yes h0
    generalize x.toNat = i at hx hi ⊢
    subst hx
    cases h1 : ldr (s.nd i) with
    | false =>
      rw [if_pos rfl]
      exact (propose_no c hi h1).mono fun e w' ⟨h2, h3⟩ => ⟨h2, c.drawn h3⟩
    | true =>
      rw [if_neg (by simp)]
      exact propose_ok c hi h1 ht (by have := hL.log i; omega)
  · rw [if_pos h0]
    exact (propose_bad c (inr_no h0)).mono fun e w' ⟨h2, h3⟩ => ⟨h2, c.drawn h3⟩
theorem copy_all {B : Nat} {w : World} {h n : Nat} {s : St} (o : Obj B w h n s) (x y : Int) :
    Calls Try.prog 15 #[.pointer (some ⟨h, 0, none⟩), .int .i64 x, .int .i64 y] w fun e w' => e = .returned (.int .i64 ((copyO n s x y).1 : Int)) ∧ Did B w w' h n (copyO n s x y).2 := by
  obtain ⟨lv, cv, c⟩ := o
  unfold copyO
  by_cases h0 : inr n x
  · obtain ⟨hx, hi⟩ := inr_yes h0
    by_cases h1 : inr n y
    · rw [if_neg (fun q => q.elim (fun z => z h0) (fun z => z h1))]
      obtain ⟨hy, hj⟩ := inr_yes h1
      generalize x.toNat = i at hx hi ⊢
      generalize y.toNat = j at hy hj ⊢
      subst hx hy
      by_cases h2 : cpe s i j = 0
      · rw [if_neg (fun q => q h2)]
        by_cases hij : i = j
        · subst hij
          have e : copied s i i = s := if_pos rfl
          rw [e]
          exact copy_self c hi h2
        · exact copy_two c hi hj hij h2
      · rw [if_pos h2]
        exact (copy_no c hi hj rfl h2).mono fun e w' ⟨h2, h3⟩ => ⟨h2, c.drawn h3⟩
    · rw [if_pos (.inr h1)]
      generalize x.toNat = i at hx hi ⊢
      subst hx
      exact (copy_bad2 c hi (inr_no h1)).mono fun e w' ⟨h2, h3⟩ => ⟨h2, c.drawn h3⟩
  · rw [if_pos (.inl h0)]
    exact (copy_bad1 c (inr_no h0)).mono fun e w' ⟨h2, h3⟩ => ⟨h2, c.drawn h3⟩
theorem fail_all {B : Nat} {w : World} {h n : Nat} {s : St} (o : Obj B w h n s) (x : Int) :
    Calls Try.prog 33 #[.pointer (some ⟨h, 0, none⟩), .int .i64 x] w fun e w' => e = .returned (.int .i64 ((failO n s x).1 : Int)) ∧ Did B w w' h n (failO n s x).2 := by
  obtain ⟨lv, cv, c⟩ := o
  unfold failO
  by_cases h0 : inr n x
  · rw [if_neg (fun q => q h0)]
    obtain ⟨hx, hi⟩ := inr_yes h0
    generalize x.toNat = i at hx hi ⊢
    subst hx
    cases h1 : (s.nd i).down with
    | true =>
      rw [if_pos rfl]
      exact (fail_no c hi h1).mono fun e w' ⟨h2, h3⟩ => ⟨h2, c.drawn (dn_of h3)⟩
    | false =>
      rw [if_neg (by simp)]
      exact (fail_ok c hi h1).mono fun e w' ⟨h2, h3, h4⟩ => ⟨h2, c.did h3 h4⟩
  · rw [if_pos h0]
    exact (fail_bad c (inr_no h0)).mono fun e w' ⟨h2, h3⟩ => ⟨h2, c.drawn (dn_of h3)⟩
theorem restart_all {B : Nat} {w : World} {h n : Nat} {s : St} (o : Obj B w h n s) (x : Int) :
    Calls Try.prog 34 #[.pointer (some ⟨h, 0, none⟩), .int .i64 x] w fun e w' => e = .returned (.int .i64 ((restartO n s x).1 : Int)) ∧ Did B w w' h n (restartO n s x).2 := by
  obtain ⟨lv, cv, c⟩ := o
  unfold restartO
  by_cases h0 : inr n x
  · rw [if_neg (fun q => q h0)]
    obtain ⟨hx, hi⟩ := inr_yes h0
    generalize x.toNat = i at hx hi ⊢
    subst hx
    cases h1 : (s.nd i).down with
    | false =>
      rw [if_pos rfl]
      exact (restart_no c hi h1).mono fun e w' ⟨h2, h3⟩ => ⟨h2, c.drawn (dn_of h3)⟩
    | true =>
      rw [if_neg (by simp)]
      exact (restart_ok c hi h1).mono fun e w' ⟨h2, h3, h4⟩ => ⟨h2, c.did h3 h4⟩
  · rw [if_pos h0]
    exact (restart_bad c (inr_no h0)).mono fun e w' ⟨h2, h3⟩ => ⟨h2, c.drawn (dn_of h3)⟩
theorem cut_all {B : Nat} {w : World} {h n : Nat} {s : St} (o : Obj B w h n s) (x : Int) :
    Calls Try.prog 18 #[.pointer (some ⟨h, 0, none⟩), .int .i64 x] w fun e w' => e = .returned (.int .i64 ((cutO n s x).1 : Int)) ∧ Did B w w' h n (cutO n s x).2 := by
  obtain ⟨lv, cv, c⟩ := o
  unfold cutO
  by_cases h0 : inr n x
  · rw [if_neg (fun q => q h0)]
    obtain ⟨hx, hi⟩ := inr_yes h0
    generalize x.toNat = i at hx hi ⊢
    subst hx
    cases h1 : (s.nd i).cut with
    | true =>
      rw [if_pos rfl]
      exact (cut_no c hi h1).mono fun e w' ⟨h2, h3⟩ => ⟨h2, c.drawn (dn_of h3)⟩
    | false =>
      rw [if_neg (by simp)]
      exact (cut_ok c hi h1).mono fun e w' ⟨h2, h3, h4⟩ => ⟨h2, c.did h3 h4⟩
  · rw [if_pos h0]
    exact (cut_bad c (inr_no h0)).mono fun e w' ⟨h2, h3⟩ => ⟨h2, c.drawn (dn_of h3)⟩
theorem join_all {B : Nat} {w : World} {h n : Nat} {s : St} (o : Obj B w h n s) (x : Int) :
    Calls Try.prog 19 #[.pointer (some ⟨h, 0, none⟩), .int .i64 x] w fun e w' => e = .returned (.int .i64 ((joinO n s x).1 : Int)) ∧ Did B w w' h n (joinO n s x).2 := by
  obtain ⟨lv, cv, c⟩ := o
  unfold joinO
  by_cases h0 : inr n x
  · rw [if_neg (fun q => q h0)]
    obtain ⟨hx, hi⟩ := inr_yes h0
    generalize x.toNat = i at hx hi ⊢
    subst hx
    cases h1 : (s.nd i).cut with
    | false =>
      rw [if_pos rfl]
      exact (join_no c hi h1).mono fun e w' ⟨h2, h3⟩ => ⟨h2, c.drawn (dn_of h3)⟩
    | true =>
      rw [if_neg (by simp)]
      exact (join_ok c hi h1).mono fun e w' ⟨h2, h3, h4⟩ => ⟨h2, c.did h3 h4⟩
  · rw [if_pos h0]
    exact (join_bad c (inr_no h0)).mono fun e w' ⟨h2, h3⟩ => ⟨h2, c.drawn (dn_of h3)⟩
end Rp
end Go.Proofs.Ytdbpbpnbcjbchaa
