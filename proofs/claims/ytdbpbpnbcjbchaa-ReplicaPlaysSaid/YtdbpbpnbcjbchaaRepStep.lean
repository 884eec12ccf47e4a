/- The acts in plain Lean: their bounds, and that they are safe. -/
import Derived.Test.YtdbpbpnbcjbchaaRepDo
set_option linter.unusedVariables false
namespace Go.Proofs.Ytdbpbpnbcjbchaa
namespace Rp
theorem setN_log (s : St) (i k : Nat) (d : Nd) : ((setN s i d).nd k).log = if k = i then d.log else (s.nd k).log := by
  unfold setN; simp only; split <;> rfl
theorem setN_ep (s : St) (i k : Nat) (d : Nd) : ((setN s i d).nd k).ep = if k = i then d.ep else (s.nd k).ep := by
  unfold setN; simp only; split <;> rfl
theorem setN_led (s : St) (i k : Nat) (d : Nd) : ((setN s i d).nd k).led = if k = i then d.led else (s.nd k).led := by
  unfold setN; simp only; split <;> rfl
theorem Lim.mono {s : St} {K K' : Nat} (h : Lim s K) (hk : K ≤ K') : Lim s K' := ⟨fun i => Nat.le_trans (h.log i) hk, fun i => Nat.le_trans (h.ep i) hk, Nat.le_trans h.done hk⟩
theorem Lim.set {s : St} {K i : Nat} {d : Nd} (h : Lim s K) (h1 : d.log.length ≤ K) (h2 : d.ep ≤ K) : Lim (setN s i d) K := by
  refine ⟨fun k => ?_, fun k => ?_, h.done⟩
  · rw [setN_log]; split
    · exact h1
    · exact h.log k
  · rw [setN_ep]; split
    · exact h2
    · exact h.ep k
theorem Lim.upd {s : St} {K n i : Nat} (h : Lim s K) : Lim (upd n s i) K := by
  unfold Rp.upd
  split
  · exact h
  · refine ⟨h.log, h.ep, ?_⟩
    rw [List.length_map, List.length_take]
    have := h.log i
    omega
theorem ledS_ep (s : St) (n i e b k : Nat) : ((ledS s n i e b).nd k).ep = if k < n ∧ up (s.nd k) = true then e else (s.nd k).ep := by
  unfold ledS
  rw [setN_ep]
  have h1 : ((setN (epd s e n) i { (epd s e n).nd i with led := e }).nd k).ep = ((epd s e n).nd k).ep := by
    rw [setN_ep]; split
    · rename_i h; rw [h]
    · rfl
  have h2 : ((epd s e n).nd k).ep = if k < n ∧ up (s.nd k) = true then e else (s.nd k).ep := by
    rw [epd_at]; split <;> rfl
  split
  · rename_i h
    subst h
    simp only
    rw [h1, h2]
  · rw [h1, h2]
theorem ledS_led (s : St) (n i e b k : Nat) : ((ledS s n i e b).nd k).led = if k = i then e else (s.nd k).led := by
  unfold ledS
  rw [setN_led]
  have h2 : ((epd s e n).nd k).led = (s.nd k).led := by
    rw [epd_at]; split <;> rfl
  split
  · rename_i h
    simp only
    rw [setN_at]
  · rename_i h
    rw [setN_led, if_neg h, h2]
theorem ledS_log (s : St) (n i e b k : Nat) : ((ledS s n i e b).nd k).log = if k = i then (s.nd b).log else (s.nd k).log := by
  unfold ledS
  rw [setN_log]
  split
  · rfl
  · rename_i h
    rw [setN_log, if_neg h, epd_log]
theorem Lim.led {s : St} {K n i e b : Nat} (h : Lim s K) (he : e ≤ K + 1) : Lim (ledS s n i e b) (K + 1) := by
  refine ⟨fun k => ?_, fun k => ?_, Nat.le_succ_of_le h.done⟩
  · rw [ledS_log]; split
    · exact Nat.le_succ_of_le (h.log _)
    · exact Nat.le_succ_of_le (h.log _)
  · rw [ledS_ep]; split
    · exact he
    · exact Nat.le_succ_of_le (h.ep _)
theorem Lim.copied {s : St} {K i j : Nat} (h : Lim s K) : Lim (copied s i j) K := by
  unfold Rp.copied
  split
  · exact h
  · exact h.set (h.log i) (h.ep i)
theorem Lim.pushed {s : St} {K i : Nat} {t : ByteArray} (h : Lim s K) : Lim (pushed s i t) (K + 1) := by
  unfold Rp.pushed
  refine (h.mono (Nat.le_succ K)).set ?_ (Nat.le_succ_of_le (h.ep i))
  rw [List.length_append, List.length_singleton]
  have := h.log i
  omega
theorem lim_act {n : Nat} {s : St} {a : Ac} {K : Nat} (h : Lim s K) : Lim (actO n s a).2.2 (K + 1) := by
  have h' := h.mono (Nat.le_succ K)
  have hs : ∀ (i : Nat) (d : Nd), d.log = (s.nd i).log → d.ep = (s.nd i).ep → Lim (setN s i d) (K + 1) := fun i d h1 h2 => h'.set (by rw [h1]; exact h'.log i) (by rw [h2]; exact h'.ep i)
  unfold actO
  split
  · unfold leadO
    split
    · exact h'
    split
    · exact h'
    split
    · exact h'
    split
    · exact h'
    · have := gr_le s K n (fun i _ => h.ep i)
      exact h.led (by omega)
  split
  · unfold propO
    split
    · exact h'
    split
    · exact h'
    · exact h.pushed.upd
  split
  · unfold copyO
    split
    · exact h'
    split
    · exact h'
    · exact h'.copied.upd
  split
  · unfold failO
    split
    · exact h'
    split
    · exact h'
    · exact hs _ _ rfl rfl
  split
  · unfold restartO
    split
    · exact h'
    split
    · exact h'
    · exact hs _ _ rfl rfl
  split
  · unfold cutO
    split
    · exact h'
    split
    · exact h'
    · exact hs _ _ rfl rfl
  · unfold joinO
    split
    · exact h'
    split
    · exact h'
    · exact hs _ _ rfl rfl
-- safety
theorem top_spec (n : Nat) (s : St) (i : Nat) : ∀ M m, top n s i M = m → m ≠ 0 → s.done.length < m ∧ m ≤ M ∧ okm n s i m = true
  | 0, m, h, h0 => absurd h.symm h0
  | M + 1, m, h, h0 => by
    simp only [top] at h
    by_cases h1 : s.done.length < M + 1
    · rw [if_pos h1] at h
      by_cases h2 : okm n s i (M + 1) = true
      · rw [if_pos h2] at h
        subst h
        exact ⟨h1, Nat.le_refl _, h2⟩
      · rw [if_neg h2] at h
        obtain ⟨a, b, c⟩ := top_spec n s i M m h h0
        exact ⟨a, by omega, c⟩
    · rw [if_neg h1] at h; exact absurd h.symm h0
theorem cnt_beyond {V : Nat → Bool} {n : Nat} (h : ∀ k, n ≤ k → V k = false) : ∀ N, n ≤ N → cnt V N = cnt V n := fun N hN => by
  induction hN with
  | refl => rfl
  | step hm ih => rw [cnt_no V (h _ hm), ih]
theorem safe_upd {n e i : Nat} {s : St} (h : Safe n s e) (hn : n ≤ 7) (hi : i < n) (hl : (s.nd i).led = (s.nd i).ep) (h0 : 0 < (s.nd i).ep) : s.done <+: (upd n s i).done ∧ Safe n (upd n s i) e := by
  unfold upd
  by_cases ht : top n s i (s.nd i).log.length = 0
  · rw [if_pos ht]; exact ⟨List.prefix_refl _, h⟩
  · rw [if_neg ht]
    obtain ⟨h1, h2, h3⟩ := top_spec n s i _ _ rfl ht
    generalize top n s i (s.nd i).log.length = m at ht h1 h2 h3 ⊢
    unfold okm at h3
    rw [Bool.and_eq_true, decide_eq_true_eq, decide_eq_true_eq] at h3
    have hb : ∀ k, n ≤ k → decide (m ≤ sm n s i k) = false := fun k hk => by
      have : sm n s i k = 0 := by unfold sm; rw [if_neg (fun x => by omega)]
      rw [this]; exact decide_eq_false (by omega)
    rw [cnt_beyond hb 7 hn] at h3
    refine commit h hi hl h0 h1 h2 h3.1 (fun k => decide (m ≤ sm n s i k)) h3.2 (fun k hk hv => ?_) (fun k _ => rfl) rfl
    have hv := of_decide_eq_true hv
    unfold sm at hv
    by_cases hc : k < n ∧ (s.nd k).ep = (s.nd i).ep
    · rw [if_pos hc] at hv
      refine ⟨hc.2, ?_⟩
      rw [com_take _ _ m hv]
      exact List.take_prefix _ _
    · rw [if_neg hc] at hv; omega
theorem bst_best (s : St) : ∀ n b, bst s n = some b → ∀ k, k < n → up (s.nd k) = true → last (s.nd k).log < last (s.nd b).log ∨ (last (s.nd k).log = last (s.nd b).log ∧ (s.nd k).log.length ≤ (s.nd b).log.length)
  | 0, b, h, k, hk, _ => absurd hk (by omega)
  | n + 1, b, h, k, hk, hu => by
    simp only [bst] at h
    by_cases hun : up (s.nd n) = true
    · rw [if_pos hun] at h
      cases hb : bst s n with
      | none =>
        rw [hb] at h
        simp only [Option.some.injEq] at h
        subst h
        by_cases hkn : k = n
        · subst hkn; exact .inr ⟨rfl, Nat.le_refl _⟩
        · have h1 := bst_none s n hb
          have h2 : 0 < rcnt s n := Nat.lt_of_lt_of_le (by rw [cnt_up _ (k := k) hu]; omega) (cnt_grow (fun i => up (s.nd i)) (show k + 1 ≤ n by omega))
          omega
      | some b' =>
        rw [hb] at h
        have ih := bst_best s n b' hb
        by_cases he : bet (s.nd n).log (s.nd b').log = true
        · simp only [he, if_true, Option.some.injEq] at h
          subst h
          by_cases hkn : k = n
          · subst hkn; exact .inr ⟨rfl, Nat.le_refl _⟩
          · have := ih k (by omega) hu
            unfold bet at he
            split at he
            · rename_i e1
              have := of_decide_eq_true he
              omega
            · have := of_decide_eq_true he
              omega
        · simp only [he] at h
          simp only [Bool.false_eq_true, if_false, Option.some.injEq] at h
          subst h
          by_cases hkn : k = n
          · subst hkn
            unfold bet at he
            split at he
            · rename_i e1
              have he : ¬ _ := fun x => he (decide_eq_true x)
              omega
            · have he : ¬ _ := fun x => he (decide_eq_true x)
              omega
          · exact ih k (by omega) hu
    · rw [if_neg hun] at h
      have hkn : k ≠ n := fun e => by subst e; exact hun hu
      exact bst_best s n b h k (by omega) hu
theorem gr_ge (s : St) : ∀ n k, k < n → up (s.nd k) = true → (s.nd k).ep ≤ gr s n
  | 0, k, h, _ => absurd h (by omega)
  | n + 1, k, h, hu => by
    simp only [gr]
    by_cases hk : k = n
    · subst hk
      rw [if_pos hu]; split <;> omega
    · have := gr_ge s n k (by omega) hu
      split
      · split <;> omega
      · exact this
theorem ldr_of {d : Nd} (h : ldr d = true) : d.down = false ∧ 0 < d.led ∧ d.led = d.ep := by
  unfold ldr at h
  simp only [Bool.and_eq_true, Bool.not_eq_true', decide_eq_true_eq] at h
  exact ⟨h.1, h.2.1, h.2.2⟩
theorem safe_lead {n e i b : Nat} {s : St} (h : Safe n s e) (hi : i < n) (a0 : (s.nd i).down = false) (a1 : (s.nd i).cut = false) (hq : n < 2 * rcnt s n) (hb : bst s n = some b) :
    e < gr s n + 1 ∧ (ledS s n i (gr s n + 1) b).done <+: ((ledS s n i (gr s n + 1) b).nd i).log.map Prod.snd ∧ Safe n (ledS s n i (gr s n + 1) b) (gr s n + 1) := by
  obtain ⟨hbn, hbu⟩ := bst_lt s n b hb
  exact lead h (fun k => up (s.nd k)) hq (fun k hk hu => gr_ge s n k hk hu) hi (by unfold up; simp [a0, a1]) hbn hbu (fun k hk hu => bst_best s n b hb k hk hu) rfl
    (fun k hk => by rw [ledS_ep]; by_cases hu : up (s.nd k) = true
                    · rw [if_pos ⟨hk, hu⟩, if_pos hu]
                    · rw [if_neg (fun x => hu x.2), if_neg hu]) (fun k hk => ledS_led _ _ _ _ _ _) (fun k hk => ledS_log _ _ _ _ _ _)
/-- An act is safe: what is committed stays; a new leader has it all, and a greater epoch. -/
structure Stp (n : Nat) (s : St) (e : Nat) (a : Ac) : Prop where
  grow : s.done <+: (actO n s a).2.2.done
  safe : ∃ e', e ≤ e' ∧ Safe n (actO n s a).2.2 e' ∧ (a.k = 0 → (actO n s a).2.1 = 0 → inr n a.x ∧ e < e' ∧ ((actO n s a).2.2.nd a.x.toNat).ep = e' ∧ (actO n s a).2.2.done <+: ((actO n s a).2.2.nd a.x.toNat).log.map Prod.snd)
theorem act_safe {n e : Nat} {s : St} (a : Ac) (h : Safe n s e) (hn : n ≤ 7) : Stp n s e a := by
  have same : ∀ {r y : Nat}, (y ≠ 0 ∨ a.k ≠ 0) → actO n s a = (r, y, s) → Stp n s e a := fun hy he => by
    refine ⟨by rw [he]; exact List.prefix_refl _, e, Nat.le_refl _, by rw [he]; exact h, fun hk h0 => ?_⟩
    rw [he] at h0
    rcases hy with hy | hy
    · exact (hy h0).elim
    · exact (hy hk).elim
  have turn : ∀ {r y i : Nat} {d : Nd}, a.k ≠ 0 → actO n s a = (r, y, setN s i d) → d.ep = (s.nd i).ep → d.log = (s.nd i).log → (d.led = (s.nd i).led ∨ d.led = 0) → Stp n s e a := fun {r y i d} hk he h1 h2 h3 => by
    refine ⟨by rw [he]; exact List.prefix_refl _, e, Nat.le_refl _, ?_, fun hk' _ => (hk hk').elim⟩
    rw [he]
    refine quiet h rfl fun k hk => ?_
    show ((setN s i d).nd k).ep = _ ∧ ((setN s i d).nd k).log = _ ∧ (((setN s i d).nd k).led = _ ∨ _)
    by_cases e : k = i
    · subst e; rw [setN_at]; exact ⟨h1, h2, h3⟩
    · rw [setN_ne _ _ e]; exact ⟨rfl, rfl, .inl rfl⟩
  by_cases k0 : a.k = 0
  · have hE : actO n s a = (0, leadO n s a.x) := by unfold actO; rw [if_pos k0]
    by_cases h1 : inr n a.x
    · by_cases h2 : (s.nd a.x.toNat).down = true
      · exact same (y := 8) (.inl (by decide)) (by rw [hE]; unfold leadO; rw [if_neg (fun q => q h1), if_pos h2])
      · by_cases h3 : (s.nd a.x.toNat).cut = true
        · exact same (y := 25) (.inl (by decide)) (by rw [hE]; unfold leadO; rw [if_neg (fun q => q h1), if_neg h2, if_pos h3])
        · by_cases h4 : 2 * rcnt s n ≤ n
          · exact same (y := 23) (.inl (by decide)) (by rw [hE]; unfold leadO; rw [if_neg (fun q => q h1), if_neg h2, if_neg h3, if_pos h4])
          · cases hb : bst s n with
            | none => have := bst_none s n hb; omega
            | some b =>
              have hE2 : actO n s a = (0, 0, ledS s n a.x.toNat (gr s n + 1) b) := by rw [hE]; unfold leadO; rw [if_neg (fun q => q h1), if_neg h2, if_neg h3, if_neg h4, hb]; rfl
              have hi := (inr_yes h1).2
              obtain ⟨c1, c2, c3⟩ := safe_lead h hi (by simpa using h2) (by simpa using h3) (by omega) hb
              refine ⟨by rw [hE2]; exact List.prefix_refl _, gr s n + 1, by omega, by rw [hE2]; exact c3, fun _ _ => ⟨h1, c1, ?_, by rw [hE2]; exact c2⟩⟩
              rw [hE2]
              show ((ledS s n a.x.toNat (gr s n + 1) b).nd a.x.toNat).ep = _
              rw [ledS_ep, if_pos ⟨hi, by unfold up; simp [h2, h3]⟩]
    · exact same (y := 2) (.inl (by decide)) (by rw [hE]; unfold leadO; rw [if_pos h1])
  by_cases k1 : a.k = 1
  · have hE : actO n s a = propO n s a.x (cut20 a.t) := by unfold actO; rw [if_neg k0, if_pos k1]
    by_cases h1 : inr n a.x
    · cases h2 : ldr (s.nd a.x.toNat) with
      | false => exact same (y := 8) (.inr k0) (by rw [hE]; unfold propO; rw [if_neg (fun q => q h1), if_pos h2])
      | true =>
        have hE2 : actO n s a = ((s.nd a.x.toNat).log.length + 1, 0, upd n (pushed s a.x.toNat (cut20 a.t)) a.x.toNat) := by rw [hE]; unfold propO; rw [if_neg (fun q => q h1), if_neg (by rw [h2]; simp)]
        have hi := (inr_yes h1).2
        obtain ⟨d1, d2, d3⟩ := ldr_of h2
        have hp : Safe n (pushed s a.x.toNat (cut20 a.t)) e := propose (t := cut20 a.t) h hi d3 (by omega) rfl
          (fun k hk => by unfold pushed; rw [setN_ep]; split
                          · rename_i e1; rw [e1]
                          · rfl)
          (fun k hk => by unfold pushed; rw [setN_led]; split
                          · rename_i e1; rw [e1]
                          · rfl)
          (fun k hk => by unfold pushed; rw [setN_log])
        have hlp : ((pushed s a.x.toNat (cut20 a.t)).nd a.x.toNat).led = ((pushed s a.x.toNat (cut20 a.t)).nd a.x.toNat).ep ∧ 0 < ((pushed s a.x.toNat (cut20 a.t)).nd a.x.toNat).ep := by
          unfold pushed; rw [setN_at]; exact ⟨d3, by show 0 < (s.nd a.x.toNat).ep; omega⟩
        obtain ⟨u1, u2⟩ := safe_upd hp hn hi hlp.1 hlp.2
        exact ⟨by rw [hE2]; exact u1, e, Nat.le_refl _, by rw [hE2]; exact u2, fun hk _ => (k0 hk).elim⟩
    · exact same (y := 2) (.inr k0) (by rw [hE]; unfold propO; rw [if_pos h1])
  by_cases k2 : a.k = 2
  · have hE : actO n s a = (0, copyO n s a.x a.y) := by unfold actO; rw [if_neg k0, if_neg k1, if_pos k2]
    by_cases h1 : ¬ inr n a.x ∨ ¬ inr n a.y
    · exact same (y := 2) (.inr k0) (by rw [hE]; unfold copyO; rw [if_pos h1])
    · by_cases h2 : cpe s a.x.toNat a.y.toNat = 0
      · have hE2 : actO n s a = (0, 0, upd n (copied s a.x.toNat a.y.toNat) a.x.toNat) := by rw [hE]; unfold copyO; rw [if_neg h1, if_neg (fun q => q h2)]
        have hi := (inr_yes (Classical.byContradiction fun q => h1 (.inl q))).2
        have hj := (inr_yes (Classical.byContradiction fun q => h1 (.inr q))).2
        generalize a.x.toNat = i at hi h2 hE2 ⊢
        generalize a.y.toNat = j at hj h2 hE2 ⊢
        obtain ⟨b1, b2⟩ : ldr (s.nd i) = true ∧ ¬ (s.nd i).ep < (s.nd j).ep := by
          unfold cpe at h2
          split at h2
          · cases h2
          · rename_i q1
            split at h2
            · cases h2
            · split at h2
              · cases h2
              · rename_i q3
                refine ⟨?_, q3⟩
                cases e1 : ldr (s.nd i) with
                | true => rfl
                | false => exact (q1 (.inr (.inr e1))).elim
        obtain ⟨d1, d2, d3⟩ := ldr_of b1
        have hp : Safe n (copied s i j) e ∧ ((copied s i j).nd i).led = ((copied s i j).nd i).ep ∧ 0 < ((copied s i j).nd i).ep ∧ (copied s i j).done = s.done := by
          unfold copied
          by_cases hij : i = j
          · rw [if_pos hij]; exact ⟨h, d3, by omega, rfl⟩
          · rw [if_neg hij]
            refine ⟨copy (i := i) (j := j) h hi hj hij d3 (by omega) (by omega) rfl (fun k hk => setN_ep _ _ _ _) (fun k hk => ?_) (fun k hk => setN_log _ _ _ _), ?_, ?_, rfl⟩
            · rw [setN_led]; split
              · rename_i e1; rw [e1]
              · rfl
            · rw [setN_ne _ _ hij]; exact d3
            · rw [setN_ne _ _ hij]; omega
        obtain ⟨u1, u2⟩ := safe_upd hp.1 hn hi hp.2.1 hp.2.2.1
        rw [hp.2.2.2] at u1
        exact ⟨by rw [hE2]; exact u1, e, Nat.le_refl _, by rw [hE2]; exact u2, fun hk _ => (k0 hk).elim⟩
      · exact same (y := cpe s a.x.toNat a.y.toNat) (.inr k0) (by rw [hE]; unfold copyO; rw [if_neg h1, if_pos h2])
  by_cases k3 : a.k = 3
  · have hE : actO n s a = (0, failO n s a.x) := by unfold actO; rw [if_neg k0, if_neg k1, if_neg k2, if_pos k3]
    by_cases h1 : inr n a.x
    · by_cases h2 : (s.nd a.x.toNat).down = true
      · exact same (y := 8) (.inr k0) (by rw [hE]; unfold failO; rw [if_neg (fun q => q h1), if_pos h2])
      · exact turn (r := 0) (y := 0) (i := a.x.toNat) (d := { s.nd a.x.toNat with down := true, led := 0 }) k0 (by rw [hE]; unfold failO; rw [if_neg (fun q => q h1), if_neg h2]) rfl rfl (.inr rfl)
    · exact same (y := 2) (.inr k0) (by rw [hE]; unfold failO; rw [if_pos h1])
  by_cases k4 : a.k = 4
  · have hE : actO n s a = (0, restartO n s a.x) := by unfold actO; rw [if_neg k0, if_neg k1, if_neg k2, if_neg k3, if_pos k4]
    by_cases h1 : inr n a.x
    · by_cases h2 : (s.nd a.x.toNat).down = false
      · exact same (y := 8) (.inr k0) (by rw [hE]; unfold restartO; rw [if_neg (fun q => q h1), if_pos h2])
      · exact turn (r := 0) (y := 0) (i := a.x.toNat) (d := { s.nd a.x.toNat with down := false }) k0 (by rw [hE]; unfold restartO; rw [if_neg (fun q => q h1), if_neg h2]) rfl rfl (.inl rfl)
    · exact same (y := 2) (.inr k0) (by rw [hE]; unfold restartO; rw [if_pos h1])
  by_cases k5 : a.k = 5
  · have hE : actO n s a = (0, cutO n s a.x) := by unfold actO; rw [if_neg k0, if_neg k1, if_neg k2, if_neg k3, if_neg k4, if_pos k5]
    by_cases h1 : inr n a.x
    · by_cases h2 : (s.nd a.x.toNat).cut = true
      · exact same (y := 8) (.inr k0) (by rw [hE]; unfold cutO; rw [if_neg (fun q => q h1), if_pos h2])
      · exact turn (r := 0) (y := 0) (i := a.x.toNat) (d := { s.nd a.x.toNat with cut := true }) k0 (by rw [hE]; unfold cutO; rw [if_neg (fun q => q h1), if_neg h2]) rfl rfl (.inl rfl)
    · exact same (y := 2) (.inr k0) (by rw [hE]; unfold cutO; rw [if_pos h1])
  · have hE : actO n s a = (0, joinO n s a.x) := by unfold actO; rw [if_neg k0, if_neg k1, if_neg k2, if_neg k3, if_neg k4, if_neg k5]
    by_cases h1 : inr n a.x
    · by_cases h2 : (s.nd a.x.toNat).cut = false
      · exact same (y := 8) (.inr k0) (by rw [hE]; unfold joinO; rw [if_neg (fun q => q h1), if_pos h2])
      · exact turn (r := 0) (y := 0) (i := a.x.toNat) (d := { s.nd a.x.toNat with cut := false }) k0 (by rw [hE]; unfold joinO; rw [if_neg (fun q => q h1), if_neg h2]) rfl rfl (.inl rfl)
    · exact same (y := 2) (.inr k0) (by rw [hE]; unfold joinO; rw [if_pos h1])
end Rp
end Go.Proofs.Ytdbpbpnbcjbchaa
