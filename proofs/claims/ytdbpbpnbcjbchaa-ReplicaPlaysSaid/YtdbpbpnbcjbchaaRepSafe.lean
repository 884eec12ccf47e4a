/- The safety of a replicated log, in plain Lean: what is committed stays. -/
import Derived.Test.YtdbpbpnbcjbchaaBase
set_option linter.unusedVariables false
namespace Go.Proofs.Ytdbpbpnbcjbchaa
namespace Rp
abbrev Log := List (Nat × ByteArray)
/-- The epoch of entry p. -/
def ee (l : Log) (p : Nat) : Nat := (l.getD p (0, ByteArray.empty)).1
def last (l : Log) : Nat := if l.length = 0 then 0 else ee l (l.length - 1)
structure Nd where
  down : Bool
  cut : Bool
  ep : Nat
  led : Nat
  log : Log
structure St where
  nd : Nat → Nd
  done : List ByteArray
def cnt (P : Nat → Bool) : Nat → Nat
  | 0 => 0
  | n + 1 => cnt P n + if P n = true then 1 else 0
theorem cnt_le (P : Nat → Bool) : ∀ n, cnt P n ≤ n
  | 0 => Nat.le_refl _
  | n + 1 => by
    have := cnt_le P n
    simp only [cnt]; split <;> omega
theorem cnt_both (P Q : Nat → Bool) : ∀ n, (∀ i, i < n → ¬ (P i = true ∧ Q i = true)) → cnt P n + cnt Q n ≤ n
  | 0, _ => Nat.le_refl _
  | n + 1, h => by
    have h1 := cnt_both P Q n fun i hi => h i (by omega)
    have h2 := h n (by omega)
    simp only [cnt]
    by_cases hp : P n = true
    · rw [if_pos hp, if_neg fun hq => h2 ⟨hp, hq⟩]; omega
    · rw [if_neg hp]; split <;> omega
theorem meet {P Q : Nat → Bool} {n : Nat} (hp : n < 2 * cnt P n) (hq : n < 2 * cnt Q n) : ∃ i, i < n ∧ P i = true ∧ Q i = true := by
  apply Classical.byContradiction
  intro h
  have := cnt_both P Q n fun i hi hb => h ⟨i, hi, hb⟩
  omega
theorem cnt_mono {P Q : Nat → Bool} : ∀ {n : Nat}, (∀ i, i < n → P i = true → Q i = true) → cnt P n ≤ cnt Q n
  | 0, _ => Nat.le_refl _
  | n + 1, h => by
    have h1 := cnt_mono (P := P) (Q := Q) (n := n) fun i hi => h i (by omega)
    have h2 := h n (by omega)
    simp only [cnt]
    by_cases hp : P n = true
    · rw [if_pos hp, if_pos (h2 hp)]; omega
    · rw [if_neg hp]; omega
theorem ee_pre {l h : Log} (hp : l <+: h) {p : Nat} (hl : p < l.length) : ee l p = ee h p := by
  obtain ⟨t, rfl⟩ := hp
  unfold ee
  rw [List.getD_eq_getElem?_getD, List.getD_eq_getElem?_getD, List.getElem?_append_left hl]
theorem ee_take {l : Log} {m p : Nat} (h : p < m) : ee (l.take m) p = ee l p := by
  unfold ee
  rw [List.getD_eq_getElem?_getD, List.getD_eq_getElem?_getD, List.getElem?_take, if_pos h]
theorem take_all (l : Log) : l.take l.length = l := List.take_length
theorem pre_of {a b c : Log} (ha : a <+: c) (hb : b <+: c) (h : a.length ≤ b.length) : a <+: b := List.prefix_of_prefix_length_le ha hb h
/-- A log, beside what the leaders of the epochs have written. -/
structure Good (H : Nat → Log) (el : Nat → Prop) (e : Nat) (l : Log) : Prop where
  el : ∀ p, p < l.length → el (ee l p)
  le : ∀ p, p < l.length → ee l p ≤ e
  pre : ∀ p, p < l.length → l.take (p + 1) <+: H (ee l p)
structure Inv (n : Nat) (s : St) (H : Nat → Log) (el : Nat → Prop) (K : Log) (ec : Nat) : Prop where
  le : ∀ i, i < n → (s.nd i).led ≤ (s.nd i).ep
  el0 : ¬ el 0
  own : ∀ i, i < n → (s.nd i).led = (s.nd i).ep → 0 < (s.nd i).ep → el (s.nd i).ep ∧ (s.nd i).log = H (s.nd i).ep
  one : ∀ i j, i < n → j < n → i ≠ j → (s.nd i).led = (s.nd i).ep → 0 < (s.nd i).ep → (s.nd j).led = (s.nd j).ep → (s.nd i).ep ≠ (s.nd j).ep
  maj : ∀ e, el e → ∃ M : Nat → Bool, n < 2 * cnt M n ∧ ∀ i, i < n → M i = true → e ≤ (s.nd i).ep
  good : ∀ i, i < n → Good H el (s.nd i).ep (s.nd i).log
  hgood : ∀ e, el e → Good H el e (H e)
  mono : ∀ e, el e → ∀ p q, p ≤ q → q < (H e).length → ee (H e) p ≤ ee (H e) q
  com : K = [] ∨ (0 < K.length ∧ ee K (K.length - 1) = ec ∧ (∀ e, el e → ec ≤ e → K <+: H e) ∧ ∃ M : Nat → Bool, n < 2 * cnt M n ∧ ∀ i, i < n → M i = true → ec ≤ (s.nd i).ep ∧ K <+: (s.nd i).log)
  done : s.done = K.map Prod.snd
/-- What is to be known of a state. -/
def Safe (n : Nat) (s : St) (e : Nat) : Prop := ∃ H el K ec, Inv n s H el K ec ∧ (e = 0 ∨ el e)

theorem good_mono {H H' : Nat → Log} {el el' : Nat → Prop} {e e' : Nat} {l : Log} (h : Good H el e l) (he : e ≤ e') (hel : ∀ x, el x → el' x) (hH : ∀ x, el x → H x <+: H' x) : Good H' el' e' l :=
  ⟨fun p hp => hel _ (h.el p hp), fun p hp => Nat.le_trans (h.le p hp) he, fun p hp => (h.pre p hp).trans (hH _ (h.el p hp))⟩
/-- A log that is not empty is the beginning of what the leader of its last epoch has written. -/
theorem good_all {H : Nat → Log} {el : Nat → Prop} {e : Nat} {l : Log} (h : Good H el e l) (h0 : 0 < l.length) : el (last l) ∧ l <+: H (last l) := by
  have hl : last l = ee l (l.length - 1) := by unfold last; rw [if_neg (by omega)]
  rw [hl]
  have h1 := h.pre (l.length - 1) (by omega)
  rw [show l.length - 1 + 1 = l.length by omega, take_all] at h1
  exact ⟨h.el _ (by omega), h1⟩

theorem init (n : Nat) (nd : Nat → Nd) (h : ∀ i, i < n → (nd i).ep = 0 ∧ (nd i).led = 0 ∧ (nd i).log = []) : Safe n ⟨nd, []⟩ 0 := by
  refine ⟨fun _ => [], fun _ => False, [], 0, ?_, .inl rfl⟩
  refine ⟨fun i hi => by rw [(h i hi).2.1]; exact Nat.zero_le _, fun h => h, fun i hi _ h0 => by rw [(h i hi).1] at h0; omega, fun i j hi hj _ _ h0 => by rw [(h i hi).1] at h0; omega, fun e he => he.elim, fun i hi => ?_, fun e he => he.elim, fun e he => he.elim, .inl rfl, rfl⟩
  rw [(h i hi).2.2]
  exact ⟨fun p hp => absurd hp (by simp), fun p hp => absurd hp (by simp), fun p hp => absurd hp (by simp)⟩
/-- Nothing but marks, and leaders that stop. -/
theorem quiet {n e : Nat} {s s' : St} (h : Safe n s e) (hd : s'.done = s.done) (hn : ∀ i, i < n → (s'.nd i).ep = (s.nd i).ep ∧ (s'.nd i).log = (s.nd i).log ∧ ((s'.nd i).led = (s.nd i).led ∨ (s'.nd i).led = 0)) : Safe n s' e := by
  obtain ⟨H, el, K, ec, hI, he⟩ := h
  have hl : ∀ i, i < n → (s'.nd i).led = (s'.nd i).ep → 0 < (s'.nd i).ep → (s.nd i).led = (s.nd i).ep := fun i hi h1 h2 => by
    obtain ⟨a, b, c⟩ := hn i hi
    rcases c with c | c <;> omega
  refine ⟨H, el, K, ec, ⟨fun i hi => ?_, hI.el0, fun i hi h1 h2 => ?_, fun i j hi hj hij h1 h2 h3 h4 => ?_, fun x hx => ?_, fun i hi => ?_, hI.hgood, hI.mono, ?_, by rw [hd]; exact hI.done⟩, he⟩
  · have := hI.le i hi
    obtain ⟨a, b, c⟩ := hn i hi
    rcases c with c | c <;> omega
  · have h3 := hl i hi h1 h2
    obtain ⟨a, b, c⟩ := hn i hi
    rw [a] at h2 ⊢
    rw [b]
    exact hI.own i hi h3 h2
  · have h5 := hl i hi h1 h2
    have h6 := hl j hj h3 (by omega)
    obtain ⟨a, b, c⟩ := hn i hi
    obtain ⟨a', b', c'⟩ := hn j hj
    exact hI.one i j hi hj hij h5 (by omega) h6 (by omega)
  · obtain ⟨M, h1, h2⟩ := hI.maj x hx
    exact ⟨M, h1, fun i hi hm => by rw [(hn i hi).1]; exact h2 i hi hm⟩
  · rw [(hn i hi).1, (hn i hi).2.1]; exact hI.good i hi
  · rcases hI.com with h1 | ⟨h1, h2, h3, M, h4, h5⟩
    · exact .inl h1
    · refine .inr ⟨h1, h2, h3, M, h4, fun i hi hm => ?_⟩
      rw [(hn i hi).1, (hn i hi).2.1]; exact h5 i hi hm
/-- A leader is made. R: who is reached; b: whose log is taken. -/
theorem lead {n e i b g : Nat} {s s' : St} (h : Safe n s e) (R : Nat → Bool) (hR : n < 2 * cnt R n) (hg : ∀ k, k < n → R k = true → (s.nd k).ep ≤ g) (hi : i < n) (hiR : R i = true) (hb : b < n) (hbR : R b = true)
    (hbest : ∀ k, k < n → R k = true → last (s.nd k).log < last (s.nd b).log ∨ (last (s.nd k).log = last (s.nd b).log ∧ (s.nd k).log.length ≤ (s.nd b).log.length))
    (hd : s'.done = s.done) (hep : ∀ k, k < n → (s'.nd k).ep = if R k = true then g + 1 else (s.nd k).ep) (hled : ∀ k, k < n → (s'.nd k).led = if k = i then g + 1 else (s.nd k).led) (hlog : ∀ k, k < n → (s'.nd k).log = if k = i then (s.nd b).log else (s.nd k).log) :
    e < g + 1 ∧ s'.done <+: (s'.nd i).log.map Prod.snd ∧ Safe n s' (g + 1) := by
  obtain ⟨H, el, K, ec, hI, he⟩ := h
  have hfresh : ∀ x, el x → x ≤ g := fun x hx => by
    obtain ⟨M, h1, h2⟩ := hI.maj x hx
    obtain ⟨k, hk, hk1, hk2⟩ := meet h1 hR
    exact Nat.le_trans (h2 k hk hk1) (hg k hk hk2)
  -- what is committed stands at the head of the best log
  have hK : K = [] ∨ (0 < K.length ∧ K <+: (s.nd b).log) := by
    rcases hI.com with h1 | ⟨h1, h2, h3, M, h4, h5⟩
    · exact .inl h1
    refine .inr ⟨h1, ?_⟩
    obtain ⟨q, hq, hq1, hq2⟩ := meet h4 hR
    obtain ⟨h6, h7⟩ := h5 q hq hq1
    have hql : 0 < (s.nd q).log.length := Nat.lt_of_lt_of_le h1 h7.length_le
    obtain ⟨h8, h9⟩ := good_all (hI.good q hq) hql
    have hqe : ec ≤ last (s.nd q).log := by
      have e1 : ee K (K.length - 1) = ee (H (last (s.nd q).log)) (K.length - 1) := ee_pre (h7.trans h9) (by omega)
      have e2 : last (s.nd q).log = ee (H (last (s.nd q).log)) ((s.nd q).log.length - 1) := by
        conv => lhs; unfold last
        rw [if_neg (by omega)]
        exact ee_pre h9 (by omega)
      rw [← h2, e1]
      conv => rhs; rw [e2]
      exact hI.mono _ h8 _ _ (by have := h7.length_le; omega) (by have := h9.length_le; omega)
    have hbl : 0 < (s.nd b).log.length := by
      rcases hbest q hq hq2 with hx | ⟨hx, hy⟩
      · rcases Nat.eq_zero_or_pos (s.nd b).log.length with e0 | e0
        · unfold last at hx; rw [if_pos e0] at hx; omega
        · exact e0
      · omega
    obtain ⟨h10, h11⟩ := good_all (hI.good b hb) hbl
    have hKb : K <+: H (last (s.nd b).log) := h3 _ h10 (by rcases hbest q hq hq2 with hx | ⟨hx, _⟩ <;> omega)
    refine pre_of hKb h11 ?_
    rcases hbest q hq hq2 with hx | ⟨hx, hy⟩
    · -- the best log ends in a greater epoch: it reaches beyond K
      rcases Nat.lt_or_ge (s.nd b).log.length K.length with hc | hc
      · exfalso
        have e1 : ec = ee (H (last (s.nd b).log)) (K.length - 1) := by rw [← h2]; exact ee_pre hKb (by omega)
        have e2 : last (s.nd b).log = ee (H (last (s.nd b).log)) ((s.nd b).log.length - 1) := by
          conv => lhs; unfold last
          rw [if_neg (by omega)]
          exact ee_pre h11 (by omega)
        have e3 := hI.mono _ h10 ((s.nd b).log.length - 1) (K.length - 1) (by omega) (by have := hKb.length_le; omega)
        omega
      · exact hc
    · exact Nat.le_trans h7.length_le hy
  have hKl : K <+: (s.nd b).log := by
    rcases hK with rfl | ⟨_, h⟩
    · exact List.nil_prefix
    · exact h
  let H' : Nat → Log := fun x => if x = g + 1 then (s.nd b).log else H x
  let el' : Nat → Prop := fun x => x = g + 1 ∨ el x
  have hH : ∀ x, el x → H x <+: H' x := fun x hx => by
    have := hfresh x hx
    show H x <+: if x = g + 1 then _ else _
    rw [if_neg (by omega)]
    exact List.prefix_refl _
  have hbg := hg b hb hbR
  have hled' : ∀ k, k < n → (s'.nd k).led = (s'.nd k).ep → 0 < (s'.nd k).ep → k = i ∨ (R k = false ∧ (s.nd k).led = (s.nd k).ep ∧ (s'.nd k).ep = (s.nd k).ep ∧ (s'.nd k).log = (s.nd k).log) := fun k hk h1 h2 => by
    by_cases hki : k = i
    · exact .inl hki
    · right
      have h3 := hep k hk
      have h4 := hled k hk
      have h5 := hlog k hk
      rw [if_neg hki] at h4 h5
      cases hr : R k with
      | false => rw [hr] at h3; simp at h3; exact ⟨rfl, by omega, h3, h5⟩
      | true =>
        rw [hr] at h3; simp at h3
        have := hI.le k hk
        have := hg k hk hr
        omega
  refine ⟨?_, ?_, H', el', K, ec, ?_, .inr (.inl rfl)⟩
  · rcases he with rfl | he
    · omega
    · have := hfresh e he; omega
  · rw [hd, hI.done, hlog i hi, if_pos rfl]
    exact hKl.map _
  · refine ⟨fun k hk => ?_, ?_, fun k hk h1 h2 => ?_, fun k j hk hj hkj h1 h2 h3 h4 => ?_, fun x hx => ?_, fun k hk => ?_, fun x hx => ?_, fun x hx p q hpq hq => ?_, ?_, by rw [hd]; exact hI.done⟩
    · rw [hep k hk, hled k hk]
      have := hI.le k hk
      by_cases hki : k = i
      · subst hki; rw [if_pos rfl, if_pos hiR]; omega
      · rw [if_neg hki]
        split
        · rename_i hr; have := hg k hk hr; omega
        · exact this
    · rintro (h | h)
      · omega
      · exact hI.el0 h
    · rcases hled' k hk h1 h2 with rfl | ⟨hr, h3, h4, h5⟩
      · have h6 := hep k hk
        rw [if_pos hiR] at h6
        rw [h6, hlog k hk, if_pos rfl]
        exact ⟨.inl rfl, by show _ = if g + 1 = g + 1 then _ else _; rw [if_pos rfl]⟩
      · rw [h4] at h2 ⊢
        rw [h5]
        obtain ⟨h6, h7⟩ := hI.own k hk h3 h2
        have := hfresh _ h6
        exact ⟨.inr h6, by show _ = if _ then _ else _; rw [if_neg (by omega)]; exact h7⟩
    · have hi1 : (s'.nd i).ep = g + 1 := by rw [hep i hi, if_pos hiR]
      rcases hled' k hk h1 h2 with rfl | ⟨hr, h5, h6, h7⟩
      · rcases hled' j hj h3 (by omega) with rfl | ⟨hr, h5, h6, h7⟩
        · exact hkj rfl
        · have := hfresh _ (hI.own j hj h5 (by omega)).1
          omega
      · rcases hled' j hj h3 (by omega) with rfl | ⟨hr', h5', h6', h7'⟩
        · have := hfresh _ (hI.own k hk h5 (by omega)).1
          omega
        · exact hI.one k j hk hj hkj h5 (by omega) h5' (by omega)
    · rcases hx with rfl | hx
      · exact ⟨R, hR, fun k hk hr => by rw [hep k hk, if_pos hr]; exact Nat.le_refl _⟩
      · obtain ⟨M, h1, h2⟩ := hI.maj x hx
        refine ⟨M, h1, fun k hk hm => Nat.le_trans (h2 k hk hm) ?_⟩
        rw [hep k hk]
        split
        · rename_i hr; have := hg k hk hr; omega
        · exact Nat.le_refl _
    · rw [hlog k hk, hep k hk]
      by_cases hki : k = i
      · subst hki
        rw [if_pos rfl, if_pos hiR]
        exact good_mono (hI.good b hb) (by omega) (fun x hx => .inr hx) hH
      · rw [if_neg hki]
        refine good_mono (hI.good k hk) ?_ (fun x hx => .inr hx) hH
        split
        · rename_i hr; have := hg k hk hr; omega
        · exact Nat.le_refl _
    · show Good H' el' x (if x = g + 1 then _ else _)
      rcases hx with rfl | hx
      · rw [if_pos rfl]
        exact good_mono (hI.good b hb) (by omega) (fun x hx => .inr hx) hH
      · have := hfresh x hx
        rw [if_neg (by omega)]
        exact good_mono (hI.hgood x hx) (Nat.le_refl _) (fun x hx => .inr hx) hH
    · have e1 : H' x = if x = g + 1 then (s.nd b).log else H x := rfl
      rw [e1] at hq ⊢
      rcases hx with rfl | hx
      · rw [if_pos rfl] at hq ⊢
        obtain ⟨h10, h11⟩ := good_all (hI.good b hb) (by omega)
        rw [ee_pre h11 (by omega), ee_pre h11 hq]
        exact hI.mono _ h10 p q hpq (by have := h11.length_le; omega)
      · have := hfresh x hx
        rw [if_neg (by omega)] at hq ⊢
        exact hI.mono x hx p q hpq hq
    · rcases hI.com with h1 | ⟨h1, h2, h3, M, h4, h5⟩
      · exact .inl h1
      · refine .inr ⟨h1, h2, fun x hx hle => ?_, M, h4, fun k hk hm => ?_⟩
        · show K <+: if x = g + 1 then _ else _
          rcases hx with rfl | hx
          · rw [if_pos rfl]; exact hKl
          · have := hfresh x hx
            rw [if_neg (by omega)]; exact h3 x hx hle
        · obtain ⟨h6, h7⟩ := h5 k hk hm
          rw [hep k hk, hlog k hk]
          refine ⟨?_, ?_⟩
          · split
            · rename_i hr; have := hg k hk hr; omega
            · exact h6
          · split
            · exact hKl
            · exact h7
/-- A leader appends. -/
theorem propose {n e i : Nat} {t : ByteArray} {s s' : St} (h : Safe n s e) (hi : i < n) (hl : (s.nd i).led = (s.nd i).ep) (h0 : 0 < (s.nd i).ep) (hd : s'.done = s.done) (hep : ∀ k, k < n → (s'.nd k).ep = (s.nd k).ep) (hled : ∀ k, k < n → (s'.nd k).led = (s.nd k).led)
    (hlog : ∀ k, k < n → (s'.nd k).log = if k = i then (s.nd i).log ++ [((s.nd i).ep, t)] else (s.nd k).log) : Safe n s' e := by
  obtain ⟨H, el, K, ec, hI, he⟩ := h
  obtain ⟨ho1, ho2⟩ := hI.own i hi hl h0
  let H' : Nat → Log := fun x => if x = (s.nd i).ep then (s.nd i).log ++ [((s.nd i).ep, t)] else H x
  have hH : ∀ x, el x → H x <+: H' x := fun x hx => by
    show H x <+: if x = (s.nd i).ep then _ else _
    split
    · rename_i e1; subst e1; rw [← ho2]; exact List.prefix_append _ _
    · exact List.prefix_refl _
  have hnew : Good H' el (s.nd i).ep ((s.nd i).log ++ [((s.nd i).ep, t)]) := by
    have hg := hI.good i hi
    have hpre : ∀ p, p < (s.nd i).log.length → ee ((s.nd i).log ++ [((s.nd i).ep, t)]) p = ee (s.nd i).log p := fun p hp => (ee_pre (List.prefix_append _ _) hp).symm
    have hlast : ee ((s.nd i).log ++ [((s.nd i).ep, t)]) (s.nd i).log.length = (s.nd i).ep := by
      unfold ee; rw [List.getD_eq_getElem?_getD, List.getElem?_append_right (Nat.le_refl _), Nat.sub_self]; rfl
    have hlen : ((s.nd i).log ++ [((s.nd i).ep, t)]).length = (s.nd i).log.length + 1 := by simp
    refine ⟨fun p hp => ?_, fun p hp => ?_, fun p hp => ?_⟩
    · rw [hlen] at hp
      by_cases e1 : p = (s.nd i).log.length
      · subst e1; rw [hlast]; exact ho1
      · rw [hpre p (by omega)]; exact hg.el p (by omega)
    · rw [hlen] at hp
      by_cases e1 : p = (s.nd i).log.length
      · subst e1; rw [hlast]; exact Nat.le_refl _
      · rw [hpre p (by omega)]; exact hg.le p (by omega)
    · rw [hlen] at hp
      by_cases e1 : p = (s.nd i).log.length
      · subst e1
        rw [hlast]
        show _ <+: if _ = _ then _ else _
        rw [if_pos rfl, ← hlen, List.take_length]
        exact List.prefix_refl _
      · rw [hpre p (by omega), List.take_append_of_le_length (by omega)]
        exact (hg.pre p (by omega)).trans (hH _ (hg.el p (by omega)))
  refine ⟨H', el, K, ec, ⟨fun k hk => by rw [hep k hk, hled k hk]; exact hI.le k hk, hI.el0, fun k hk h1 h2 => ?_, fun k j hk hj hkj h1 h2 h3 => ?_, fun x hx => ?_, fun k hk => ?_, fun x hx => ?_, fun x hx p q hpq hq => ?_, ?_, by rw [hd]; exact hI.done⟩, he⟩
  · rw [hep k hk] at h1 h2 ⊢
    rw [hled k hk] at h1
    obtain ⟨h3, h4⟩ := hI.own k hk h1 h2
    refine ⟨h3, ?_⟩
    rw [hlog k hk]
    show _ = if _ = _ then _ else _
    by_cases hki : k = i
    · subst hki; rw [if_pos rfl, if_pos rfl]
    · rw [if_neg hki, if_neg (hI.one k i hk hi hki h1 h2 hl)]; exact h4
  · rw [hep k hk, hep j hj]
    rw [hep k hk, hled k hk] at h1
    rw [hep j hj, hled j hj] at h3
    rw [hep k hk] at h2
    exact hI.one k j hk hj hkj h1 h2 h3
  · obtain ⟨M, h1, h2⟩ := hI.maj x hx
    exact ⟨M, h1, fun k hk hm => by rw [hep k hk]; exact h2 k hk hm⟩
  · rw [hep k hk, hlog k hk]
    by_cases hki : k = i
    · subst hki; rw [if_pos rfl]; exact hnew
    · rw [if_neg hki]; exact good_mono (hI.good k hk) (Nat.le_refl _) (fun _ hx => hx) hH
  · show Good H' el x (if x = _ then _ else _)
    split
    · rename_i e1; subst e1; exact hnew
    · exact good_mono (hI.hgood x hx) (Nat.le_refl _) (fun _ hx => hx) hH
  · have e1 : H' x = if x = (s.nd i).ep then (s.nd i).log ++ [((s.nd i).ep, t)] else H x := rfl
    rw [e1] at hq ⊢
    by_cases e2 : x = (s.nd i).ep
    · subst e2
      rw [if_pos rfl] at hq ⊢
      have hlen : ((s.nd i).log ++ [((s.nd i).ep, t)]).length = (s.nd i).log.length + 1 := by simp
      have hlast : ee ((s.nd i).log ++ [((s.nd i).ep, t)]) (s.nd i).log.length = (s.nd i).ep := by
        unfold ee; rw [List.getD_eq_getElem?_getD, List.getElem?_append_right (Nat.le_refl _), Nat.sub_self]; rfl
      by_cases e3 : q = (s.nd i).log.length
      · subst e3; rw [hlast]; exact hnew.le p (by omega)
      · have hq2 : q < (s.nd i).log.length := by omega
        rw [← ee_pre (List.prefix_append (s.nd i).log [((s.nd i).ep, t)]) (show p < _ by omega), ← ee_pre (List.prefix_append (s.nd i).log [((s.nd i).ep, t)]) hq2, ho2]
        exact hI.mono _ ho1 p q hpq (by rw [← ho2]; exact hq2)
    · rw [if_neg e2] at hq ⊢
      exact hI.mono x hx p q hpq hq
  · rcases hI.com with h1 | ⟨h1, h2, h3, M, h4, h5⟩
    · exact .inl h1
    · refine .inr ⟨h1, h2, fun x hx hle => (h3 x hx hle).trans (hH x hx), M, h4, fun k hk hm => ?_⟩
      obtain ⟨h6, h7⟩ := h5 k hk hm
      rw [hep k hk, hlog k hk]
      refine ⟨h6, ?_⟩
      split
      · rename_i hki; subst hki; exact h7.trans (List.prefix_append _ _)
      · exact h7
/-- A leader's log is copied. -/
theorem copy {n e i j : Nat} {s s' : St} (h : Safe n s e) (hi : i < n) (hj : j < n) (hij : i ≠ j) (hl : (s.nd i).led = (s.nd i).ep) (h0 : 0 < (s.nd i).ep) (hle : (s.nd j).ep ≤ (s.nd i).ep) (hd : s'.done = s.done)
    (hep : ∀ k, k < n → (s'.nd k).ep = if k = j then (s.nd i).ep else (s.nd k).ep) (hled : ∀ k, k < n → (s'.nd k).led = (s.nd k).led) (hlog : ∀ k, k < n → (s'.nd k).log = if k = j then (s.nd i).log else (s.nd k).log) : Safe n s' e := by
  obtain ⟨H, el, K, ec, hI, he⟩ := h
  obtain ⟨ho1, ho2⟩ := hI.own i hi hl h0
  have hnl : (s.nd j).led ≠ (s.nd i).ep := fun h1 => by
    have h2 := hI.le j hj
    exact hI.one i j hi hj hij hl h0 (by omega) (by omega)
  refine ⟨H, el, K, ec, ⟨fun k hk => ?_, hI.el0, fun k hk h1 h2 => ?_, fun k q hk hq hkq h1 h2 h3 => ?_, fun x hx => ?_, fun k hk => ?_, hI.hgood, hI.mono, ?_, by rw [hd]; exact hI.done⟩, he⟩
  · have := hI.le k hk
    rw [hep k hk, hled k hk]
    split
    · rename_i e1; subst e1; omega
    · exact this
  · by_cases hkj : k = j
    · subst hkj
      rw [hep k hk, hled k hk, if_pos rfl] at h1
      exact absurd h1 hnl
    · rw [hep k hk, if_neg hkj] at h1 h2 ⊢
      rw [hled k hk] at h1
      rw [hlog k hk, if_neg hkj]
      exact hI.own k hk h1 h2
  · by_cases hkj : k = j
    · subst hkj
      rw [hep k hk, hled k hk, if_pos rfl] at h1
      exact absurd h1 hnl
    · by_cases hqj : q = j
      · subst hqj
        rw [hep q hq, hled q hq, if_pos rfl] at h3
        exact absurd h3 hnl
      · rw [hep k hk, if_neg hkj] at h1 h2 ⊢
        rw [hep q hq, if_neg hqj] at h3 ⊢
        rw [hled k hk] at h1
        rw [hled q hq] at h3
        exact hI.one k q hk hq hkq h1 h2 h3
  · obtain ⟨M, h1, h2⟩ := hI.maj x hx
    refine ⟨M, h1, fun k hk hm => ?_⟩
    have := h2 k hk hm
    rw [hep k hk]
    split
    · rename_i e1; subst e1; omega
    · exact this
  · rw [hep k hk, hlog k hk]
    by_cases hkj : k = j
    · rw [if_pos hkj, if_pos hkj]; exact hI.good i hi
    · rw [if_neg hkj, if_neg hkj]; exact hI.good k hk
  · rcases hI.com with h1 | ⟨h1, h2, h3, M, h4, h5⟩
    · exact .inl h1
    · refine .inr ⟨h1, h2, h3, M, h4, fun k hk hm => ?_⟩
      obtain ⟨h6, h7⟩ := h5 k hk hm
      rw [hep k hk, hlog k hk]
      by_cases hkj : k = j
      · rw [if_pos hkj, if_pos hkj]
        subst hkj
        exact ⟨by omega, by rw [ho2]; exact h3 _ ho1 (by omega)⟩
      · rw [if_neg hkj, if_neg hkj]; exact ⟨h6, h7⟩
/-- A leader commits: the texts only grow. -/
theorem commit {n e i m : Nat} {s s' : St} (h : Safe n s e) (hi : i < n) (hl : (s.nd i).led = (s.nd i).ep) (h0 : 0 < (s.nd i).ep) (hm : s.done.length < m) (hm2 : m ≤ (s.nd i).log.length) (hme : ee (s.nd i).log (m - 1) = (s.nd i).ep)
    (V : Nat → Bool) (hV : n < 2 * cnt V n) (hV2 : ∀ k, k < n → V k = true → (s.nd k).ep = (s.nd i).ep ∧ (s.nd i).log.take m <+: (s.nd k).log)
    (hn : ∀ k, k < n → s'.nd k = s.nd k) (hd : s'.done = ((s.nd i).log.take m).map Prod.snd) : s.done <+: s'.done ∧ Safe n s' e := by
  obtain ⟨H, el, K, ec, hI, he⟩ := h
  obtain ⟨ho1, ho2⟩ := hI.own i hi hl h0
  have hlen : ((s.nd i).log.take m).length = m := by rw [List.length_take]; omega
  have hK : K <+: (s.nd i).log.take m := by
    rcases hI.com with h1 | ⟨h1, h2, h3, M, h4, h5⟩
    · rw [h1]; exact List.nil_prefix
    · obtain ⟨q, hq, hq1, hq2⟩ := meet h4 hV
      have h6 := (h5 q hq hq1).1
      rw [(hV2 q hq hq2).1] at h6
      refine pre_of (c := (s.nd i).log) (by rw [ho2]; exact h3 _ ho1 h6) (List.take_prefix _ _) ?_
      have : s.done.length = K.length := by rw [hI.done]; simp
      omega
  refine ⟨by rw [hI.done, hd]; exact hK.map _, H, el, (s.nd i).log.take m, (s.nd i).ep, ⟨fun k hk => by rw [hn k hk]; exact hI.le k hk, hI.el0, fun k hk => by rw [hn k hk]; exact hI.own k hk, fun k j hk hj => by rw [hn k hk, hn j hj]; exact hI.one k j hk hj, fun x hx => ?_, fun k hk => by rw [hn k hk]; exact hI.good k hk, hI.hgood, hI.mono, .inr ⟨by omega, ?_, fun x hx hle => ?_, V, hV, fun k hk hv => ?_⟩, hd⟩, he⟩
  · obtain ⟨M, h1, h2⟩ := hI.maj x hx
    exact ⟨M, h1, fun k hk hm => by rw [hn k hk]; exact h2 k hk hm⟩
  · rw [hlen, ee_take (by omega)]; exact hme
  · rcases Nat.lt_or_ge (s.nd i).ep x with hlt | hge
    · obtain ⟨M, h1, h2⟩ := hI.maj x hx
      obtain ⟨q, hq, hq1, hq2⟩ := meet h1 hV
      have h3 := h2 q hq hq1
      rw [(hV2 q hq hq2).1] at h3
      omega
    · obtain rfl : x = (s.nd i).ep := by omega
      rw [← ho2]; exact List.take_prefix _ _
  · rw [hn k hk, (hV2 k hk hv).1]
    exact ⟨Nat.le_refl _, (hV2 k hk hv).2⟩
end Rp
end Go.Proofs.Ytdbpbpnbcjbchaa
