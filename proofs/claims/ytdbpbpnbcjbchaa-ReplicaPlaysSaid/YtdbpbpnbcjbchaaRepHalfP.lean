/- Half of the nodes, in plain Lean. -/
import Derived.Test.YtdbpbpnbcjbchaaRepLawS
set_option linter.unusedVariables false
namespace Go.Proofs.Ytdbpbpnbcjbchaa
open Go.RowKit
namespace Rp
/-- Node 0 leads in epoch 1, nothing is committed, the others have empty logs. -/
structure One (n : Nat) (s : St) : Prop where
  done : s.done = []
  ep : ∀ k, k < n → (s.nd k).ep = 1
  led : ∀ k, k < n → k ≠ 0 → (s.nd k).led = 0
  log : ∀ k, k ≠ 0 → (s.nd k).log = []
  down : ∀ k, k < n → (s.nd k).down = false
structure Hf (n : Nat) (s : St) : Prop where
  one : One n s
  cut : ∀ k, k < n → 2 * k < n → (s.nd k).cut = true
theorem cnt_true (n : Nat) (P : Nat → Bool) (h : ∀ k, k < n → P k = true) : cnt P n = n := by
  induction n with
  | zero => rfl
  | succ n ih => rw [cnt_up P (h n (by omega)), ih fun k hk => h k (by omega)]
theorem up0 (k : Nat) : up (st0.nd k) = true := rfl
theorem rc0 (n : Nat) : rcnt st0 n = n := cnt_true n _ fun k _ => up0 k
theorem gr0 : ∀ n, gr st0 n = 0
  | 0 => rfl
  | n + 1 => by
    simp only [gr]
    rw [gr0 n]
    split
    · split
      · rfl
      · rfl
    · rfl
theorem lead0 {n : Nat} (h1 : 1 ≤ n) : ∃ b, leadO n st0 0 = (0, ledS st0 n 0 1 b) := by
  cases hb : bst st0 n with
  | none => have := bst_none st0 n hb; rw [rc0] at this; omega
  | some b =>
    refine ⟨b, ?_⟩
    unfold leadO
    rw [if_neg (by unfold inr; omega), if_neg (by show ¬ (false = true); simp), if_neg (by show ¬ (false = true); simp), rc0, if_neg (by omega), gr0, hb]
    rfl
theorem ledS_down (s : St) (n i e b k : Nat) : ((ledS s n i e b).nd k).down = (s.nd k).down ∧ ((ledS s n i e b).nd k).cut = (s.nd k).cut := by
  have h1 : ((epd s e n).nd k).down = (s.nd k).down ∧ ((epd s e n).nd k).cut = (s.nd k).cut := by
    rw [epd_at]; split <;> exact ⟨rfl, rfl⟩
  unfold ledS
  by_cases hk : k = i
  · subst hk
    rw [setN_at, setN_at]
    exact h1
  · rw [setN_ne _ _ hk, setN_ne _ _ hk]
    exact h1
/-- Behind the first Lead. -/
structure Fst (n : Nat) (s : St) : Prop where
  one : One n s
  cut : ∀ k, (s.nd k).cut = false
  led : (s.nd 0).led = 1
  log : (s.nd 0).log = []
theorem fst0 {n : Nat} (h1 : 1 ≤ n) : ((leadO n st0 0).1 : Int) = 0 ∧ Fst n (leadO n st0 0).2 := by
  obtain ⟨b, hb⟩ := lead0 h1
  rw [hb]
  refine ⟨rfl, ⟨⟨rfl, fun k hk => ?_, fun k hk h0 => ?_, fun k h0 => ?_, fun k hk => (ledS_down _ _ _ _ _ _).1⟩, fun k => (ledS_down _ _ _ _ _ _).2, ?_, ?_⟩⟩
  · show ((ledS st0 n 0 1 b).nd k).ep = 1
    rw [ledS_ep, if_pos ⟨hk, up0 k⟩]
  · show ((ledS st0 n 0 1 b).nd k).led = 0
    rw [ledS_led, if_neg h0]; rfl
  · show ((ledS st0 n 0 1 b).nd k).log = []
    rw [ledS_log, if_neg h0]; rfl
  · show ((ledS st0 n 0 1 b).nd 0).led = 1
    rw [ledS_led, if_pos rfl]
  · show ((ledS st0 n 0 1 b).nd 0).log = []
    rw [ledS_log, if_pos rfl]; rfl
/-- The first j nodes are cut off. -/
structure Cutn (n : Nat) (s : St) (j : Nat) : Prop where
  one : One n s
  cut : ∀ k, (s.nd k).cut = decide (k < j)
theorem cut_next {n j : Nat} {s : St} (h : Cutn n s j) (hj : j < n) : ((cutO n s (j : Int)).1 : Int) = 0 ∧ Cutn n (cutO n s (j : Int)).2 (j + 1) := by
  have hi : inr n (j : Int) := by unfold inr; omega
  have hc : ¬ ((s.nd j).cut = true) := by rw [h.cut]; simp
  have e : cutO n s (j : Int) = (0, setN s j { s.nd j with cut := true }) := by
    unfold cutO
    rw [if_neg (fun q => q hi), Int.toNat_natCast, if_neg hc]
  rw [e]
  refine ⟨rfl, ⟨⟨h.one.done, fun k hk => ?_, fun k hk h0 => ?_, fun k h0 => ?_, fun k hk => ?_⟩, fun k => ?_⟩⟩
  · show ((setN s j { s.nd j with cut := true }).nd k).ep = 1
    rw [setN_ep]; split
    · exact h.one.ep j hj
    · exact h.one.ep k hk
  · show ((setN s j { s.nd j with cut := true }).nd k).led = 0
    rw [setN_led]; split
    · rename_i e; subst e; exact h.one.led k hk h0
    · exact h.one.led k hk h0
  · show ((setN s j { s.nd j with cut := true }).nd k).log = []
    rw [setN_log]; split
    · rename_i e; subst e; exact h.one.log k h0
    · exact h.one.log k h0
  · show ((setN s j { s.nd j with cut := true }).nd k).down = false
    by_cases e : k = j
    · subst e; rw [setN_at]; exact h.one.down k hk
    · rw [setN_ne _ _ e]; exact h.one.down k hk
  · show ((setN s j { s.nd j with cut := true }).nd k).cut = _
    by_cases e : k = j
    · subst e; rw [setN_at]; exact (decide_eq_true (by omega)).symm
    · rw [setN_ne _ _ e, h.cut]; simp only [decide_eq_decide]; omega
theorem Cutn.half {n j : Nat} {s : St} (h : Cutn n s j) (hj : n ≤ 2 * j) : Hf n s := ⟨h.one, fun k _ h2 => by rw [h.cut]; exact decide_eq_true (by omega)⟩
theorem half_few : ∀ n, n ≤ 7 → 2 * cnt (fun k => !decide (2 * k < n)) n ≤ n := by decide +kernel
theorem half_up {n : Nat} {s : St} (h : Hf n s) (hn : n ≤ 7) : 2 * rcnt s n ≤ n := by
  refine Nat.le_trans (Nat.mul_le_mul_left 2 (cnt_mono fun k hk hu => ?_)) (half_few n hn)
  cases hc : decide (2 * k < n) with
  | false => rfl
  | true =>
    exfalso
    have := h.cut k hk (of_decide_eq_true hc)
    unfold up at hu
    rw [this] at hu
    simp at hu
theorem One.ldr0 {n i : Nat} {s : St} (h : One n s) (hi : i < n) (hl : ldr (s.nd i) = true) : i = 0 := by
  apply Classical.byContradiction
  intro h0
  have := (ldr_of hl).2.1
  rw [h.led i hi h0] at this
  omega
/-- Another text in the log of node 0. -/
theorem One.push {n : Nat} {s : St} (h : One n s) (hn : 0 < n) (t : ByteArray) : One n (pushed s 0 t) := by
  unfold pushed
  refine ⟨h.done, fun k hk => ?_, fun k hk h0 => ?_, fun k h0 => ?_, fun k hk => ?_⟩
  · rw [setN_ep]; split
    · exact h.ep 0 hn
    · exact h.ep k hk
  · rw [setN_led, if_neg h0]; exact h.led k hk h0
  · rw [setN_log, if_neg h0]; exact h.log k h0
  · by_cases e : k = 0
    · subst e; rw [setN_at]; exact h.down 0 hn
    · rw [setN_ne _ _ e]; exact h.down k hk
theorem One.none {n : Nat} {s : St} (h : One n s) (hn : 2 ≤ n) : upd n s 0 = s := by
  refine upd_none (top_zero _ fun m h1 h2 => few (by omega) ?_)
  refine Nat.le_trans (Nat.mul_le_mul_left 2 (cnt_mono (Q := fun k => decide (k = 0)) fun k hk hp => ?_)) (Nat.le_trans (show 2 * cnt (fun k => decide (k = 0)) 7 ≤ 2 by decide +kernel) hn)
  have hp := of_decide_eq_true hp
  refine decide_eq_true (Classical.byContradiction fun h0 => ?_)
  rw [h.log k h0] at hp
  have : m ≤ 0 := hp.2.2
  omega
theorem half_act {n : Nat} {s : St} (a : Ac) (h : Hf n s) (hn : 2 ≤ n) (hn7 : n ≤ 7) (hk : 0 ≤ a.k ∧ a.k ≤ 2) : Hf n (actO n s a).2.2 ∧ (a.k = 0 → (actO n s a).2.1 ≠ 0) := by
  have same : (actO n s a).2.1 ≠ 0 → Hf n (actO n s a).2.2 ∧ (a.k = 0 → (actO n s a).2.1 ≠ 0) := fun he => by
    refine ⟨?_, fun _ => he⟩
    rw [act_err he]; exact h
  by_cases k0 : a.k = 0
  · refine same ?_
    unfold actO
    rw [if_pos k0]
    unfold leadO
    split
    · simp
    split
    · simp
    split
    · simp
    rw [if_pos (half_up h hn7)]
    simp
  by_cases k1 : a.k = 1
  · by_cases he : (actO n s a).2.1 = 0
    · refine ⟨?_, fun q => (k0 q).elim⟩
      have hE : actO n s a = propO n s a.x (cut20 a.t) := by unfold actO; rw [if_neg k0, if_pos k1]
      rw [hE] at he ⊢
      unfold propO at he ⊢
      by_cases h1 : ¬ inr n a.x
      · rw [if_pos h1] at he; cases he
      · rw [if_neg h1] at he ⊢
        by_cases h2 : ldr (s.nd a.x.toNat) = false
        · rw [if_pos h2] at he; cases he
        · rw [if_neg h2]
          have hi := (inr_yes (Classical.byContradiction h1)).2
          have h00 := h.one.ldr0 hi (by simpa using h2)
          rw [h00]
          show Hf n (upd n (pushed s 0 (cut20 a.t)) 0)
          have hp := h.one.push (by omega) (cut20 a.t)
          rw [hp.none hn]
          refine ⟨hp, fun k hk h2 => ?_⟩
          unfold pushed
          by_cases e : k = 0
          · subst e; rw [setN_at]; exact h.cut 0 hk h2
          · rw [setN_ne _ _ e]; exact h.cut k hk h2
    · exact same he
  · have k2 : a.k = 2 := by omega
    refine same ?_
    have hE : actO n s a = (0, copyO n s a.x a.y) := by unfold actO; rw [if_neg k0, if_neg k1, if_pos k2]
    rw [hE]
    show (copyO n s a.x a.y).1 ≠ 0
    unfold copyO
    split
    · simp
    · rename_i h1
      have hi := (inr_yes (Classical.byContradiction fun q => h1 (.inl q))).2
      have hc : cpe s a.x.toNat a.y.toNat ≠ 0 := by
        unfold cpe
        split
        · simp
        · rename_i h2
          have hl : ldr (s.nd a.x.toNat) = true := by
            cases e : ldr (s.nd a.x.toNat) with
            | true => rfl
            | false => exact (h2 (.inr (.inr e))).elim
          have h0 := h.one.ldr0 hi hl
          rw [h0]
          rw [if_pos (.inl (h.cut 0 (by omega) (by omega)))]
          simp
      rw [if_pos hc]
      exact hc
end Rp
end Go.Proofs.Ytdbpbpnbcjbchaa
