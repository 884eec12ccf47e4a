/- The walk of common: how far two logs agree. -/
import Derived.Test.YtdbpbpnbcjbchaaRepTexts
import Derived.Laws.StructEq
set_option linter.unusedVariables false
namespace Go.Proofs.Ytdbpbpnbcjbchaa
open Go.RowKit
namespace Rp
theorem toList_inj {a b : ByteArray} (h : a.toList = b.toList) : a = b := by
  rw [ByteArray.toList_eq, ByteArray.toList_eq] at h
  obtain ⟨⟨x⟩⟩ := a
  obtain ⟨⟨y⟩⟩ := b
  have h : x = y := h
  rw [h]
/-- The number of entries with which both logs begin. -/
def com : Log → Log → Nat
  | x :: a, y :: b => if x = y then com a b + 1 else 0
  | _, _ => 0
def en (l : Log) (k : Nat) : Nat × ByteArray := l.getD k (0, ByteArray.empty)
theorem com_le : ∀ a b : Log, com a b ≤ a.length ∧ com a b ≤ b.length
  | [], b => by cases b <;> exact ⟨Nat.zero_le _, Nat.zero_le _⟩
  | x :: a, [] => ⟨Nat.zero_le _, Nat.zero_le _⟩
  | x :: a, y :: b => by
    have := com_le a b
    simp only [com]
    split
    · simp only [List.length_cons]; omega
    · exact ⟨Nat.zero_le _, Nat.zero_le _⟩
theorem com_take : ∀ (a b : Log) (m : Nat), m ≤ com a b → a.take m = b.take m
  | _, _, 0, _ => by simp
  | [], b, m + 1, h => by cases b <;> exact absurd h (by simp [com])
  | x :: a, [], m + 1, h => absurd h (by simp [com])
  | x :: a, y :: b, m + 1, h => by
    simp only [com] at h
    split at h
    · rename_i e
      subst e
      rw [List.take_succ_cons, List.take_succ_cons, com_take a b m (by omega)]
    · omega
theorem com_ge : ∀ (a b : Log) (m : Nat), m ≤ a.length → m ≤ b.length → a.take m = b.take m → m ≤ com a b
  | _, _, 0, _, _, _ => Nat.zero_le _
  | [], b, m + 1, h, _, _ => absurd h (by simp)
  | x :: a, [], m + 1, _, h, _ => absurd h (by simp)
  | x :: a, y :: b, m + 1, h1, h2, h => by
    rw [List.take_succ_cons, List.take_succ_cons] at h
    injection h with h3 h4
    subst h3
    simp only [List.length_cons] at h1 h2
    have := com_ge a b m (by omega) (by omega) h4
    simp only [com, if_true]
    omega
theorem com_at : ∀ (k : Nat) (a b : Log), (∀ j, j < k → en a j = en b j) → k ≤ a.length → k ≤ b.length → (k = a.length ∨ k = b.length ∨ en a k ≠ en b k) → com a b = k
  | 0, [], b, _, _, _, _ => by cases b <;> rfl
  | 0, x :: a, [], _, _, _, _ => rfl
  | 0, x :: a, y :: b, _, _, _, h => by
    rcases h with h | h | h
    · simp at h
    · simp at h
    · simp only [com]; exact if_neg h
  | k + 1, [], b, _, h, _, _ => absurd h (by simp)
  | k + 1, x :: a, [], _, _, h, _ => absurd h (by simp)
  | k + 1, x :: a, y :: b, h, h1, h2, h3 => by
    have e : x = y := h 0 (by omega)
    subst e
    simp only [List.length_cons] at h1 h2 h3
    simp only [com, if_true]
    rw [com_at k a b (fun j hj => h (j + 1) (by omega)) (by omega) (by omega) (by
      rcases h3 with h3 | h3 | h3
      · exact .inl (by omega)
      · exact .inr (.inl (by omega))
      · exact .inr (.inr h3))]
def Agree (a b : Log) (k : Nat) : Prop := ∀ j, j < k → en a j = en b j
theorem Agree.next {a b : Log} {k : Nat} (h : Agree a b k) (e : ee a k = ee b k ∧ tt a k = tt b k) : Agree a b (k + 1) := fun j hj => by
  by_cases hk : j = k
  · subst hk; exact Prod.ext e.1 e.2
  · exact h j (by omega)
set_option maxHeartbeats 2000000 in
theorem common_le {w : World} {A A' : Option Addr} {n c n' c' : Nat} {l l' : Log} (hA : Cells w A (n * 2) (Ent l)) (hA' : Cells w A' (n' * 2) (Ent l')) (hl : l.length = n) (hl' : l'.length = n') (hn : n ≤ 1024) (hn' : n' ≤ 1024) (hle : n ≤ n') :
    Calls Try.prog 45 #[.slice A n c, .slice A' n' c'] w fun e w' => e = .returned (.int .i64 (com l l' : Int)) ∧ ∃ k, w' = w.drewN k := by
  have HA := Lib.hid hA
  have HA' := Lib.hid hA'
  clear hA hA'
  have hmm : ((n' : Int) < (n : Int)) = False := eq_false (by omega)
  have HE := Lib.hid (fun (h : Agree l l' n) => com_at n l l' h (by omega) (by omega) (.inl hl.symm))
  have HS := Lib.hid (fun (k : Nat) (hk : k < n) (h : Agree l l' k) (h2 : ¬ (ee l k = ee l' k ∧ tt l k = tt l' k)) => com_at k l l' h (by omega) (by omega) (.inr (.inr fun e => h2 (by unfold ee tt; have e2 : l.getD k (0, ByteArray.empty) = l'.getD k (0, ByteArray.empty) := e; rw [e2]; exact ⟨rfl, rfl⟩))))
  clear hl hl'
  go_enter Try.func45, Try.ntmps45
  go_wp2
  go_loopw [11] (fun i wr => ∃ k : Nat, k ≤ n ∧ i = .int .i64 k ∧ Agree l l' k ∧ ∃ q, wr = w.drewN q) (fun i _ => n - (intOf i).toNat)
  case atStart => exact ⟨0, Nat.zero_le _, rfl, fun j hj => absurd hj (by omega), 0, rfl⟩
  case round =>
    obtain ⟨k, hk, rfl, hag, q, rfl⟩ := hrel
    have HG := Lib.hid hag
    clear hag
    by_cases hkn : k < n
    · obtain ⟨b, off, e, hlt, hc⟩ := HA.out (by omega)
      obtain ⟨b', off', e', hlt', hc'⟩ := HA'.out (by omega)
      subst e
      subst e'
      have hc0 := (hc (k * 2) (by omega)).trans (by rw [(Ent_at _ _).1])
      have hc1 := (hc (k * 2 + 1) (by omega)).trans (by rw [(Ent_at _ _).2])
      rw [← Nat.add_assoc] at hc1
      have hd0 := (hc' (k * 2) (by omega)).trans (by rw [(Ent_at _ _).1])
      have hd1 := (hc' (k * 2 + 1) (by omega)).trans (by rw [(Ent_at _ _).2])
      rw [← Nat.add_assoc] at hd1
      have hkn2 : k < n := by omega
      have hkn3 : k < n' := by omega
      clear hc hc'
      go_wp2
      by_cases hE : (ee l k = ee l' k ∧ tt l k = tt l' k)
      · have q1 : ((ee l k : Int) == (ee l' k : Int)) = true := by simp [hE.1]
        have q2 : ((tt l k).toList == (tt l' k).toList) = true := by simp [hE.2]
        have HN := Lib.hid (HG.out.next hE)
        clear hE
        go_quiet (fail)
        go_wp2
        go_roundw
        case rel => exact ⟨k + 1, by omega, by go_num, HN.out, q + nq, by simp [World.drewN]⟩
        case measure => simp [intOf]; omega
      · have HF := Lib.hid (HS.out k hkn HG.out hE)
        by_cases hE1 : ee l k = ee l' k
        · have q1 : ((ee l k : Int) == (ee l' k : Int)) = true := by simp [hE1]
          have q2 : ((tt l k).toList == (tt l' k).toList) = false := by
            exact beq_eq_false_iff_ne.2 fun e => hE ⟨hE1, toList_inj e⟩
          clear hE hE1
          go_quiet (fail)
          go_wp2
          go_ret
          exact ⟨by rw [HF.out]; rfl, q + nq, by simp [World.drewN, Nat.add_assoc]⟩
        · have q1 : ((ee l k : Int) == (ee l' k : Int)) = false := by simp; omega
          clear hE hE1
          go_quiet (fail)
          go_wp2
          go_ret
          exact ⟨by rw [HF.out]; rfl, q + nq, by simp [World.drewN, Nat.add_assoc]⟩
    · obtain rfl : k = n := by omega
      have HF := Lib.hid (HE.out HG.out)
      go_wp2
      go_ret
      exact ⟨by rw [HF.out]; rfl, q, rfl⟩
set_option maxHeartbeats 2000000 in
theorem common_gt {w : World} {A A' : Option Addr} {n c n' c' : Nat} {l l' : Log} (hA : Cells w A (n * 2) (Ent l)) (hA' : Cells w A' (n' * 2) (Ent l')) (hl : l.length = n) (hl' : l'.length = n') (hn : n ≤ 1024) (hn' : n' ≤ 1024) (hle : n' < n) :
    Calls Try.prog 45 #[.slice A n c, .slice A' n' c'] w fun e w' => e = .returned (.int .i64 (com l l' : Int)) ∧ ∃ k, w' = w.drewN k := by
  have HA := Lib.hid hA
  have HA' := Lib.hid hA'
  clear hA hA'
  have hmm : ((n' : Int) < (n : Int)) := by omega
  have HE := Lib.hid (fun (h : Agree l l' n') => com_at n' l l' h (by omega) (by omega) (.inr (.inl hl'.symm)))
  have HS := Lib.hid (fun (k : Nat) (hk : k < n') (h : Agree l l' k) (h2 : ¬ (ee l k = ee l' k ∧ tt l k = tt l' k)) => com_at k l l' h (by omega) (by omega) (.inr (.inr fun e => h2 (by unfold ee tt; have e2 : l.getD k (0, ByteArray.empty) = l'.getD k (0, ByteArray.empty) := e; rw [e2]; exact ⟨rfl, rfl⟩))))
  clear hl hl'
  go_enter Try.func45, Try.ntmps45
  go_wp2
  go_loopw [11] (fun i wr => ∃ k : Nat, k ≤ n' ∧ i = .int .i64 k ∧ Agree l l' k ∧ ∃ q, wr = w.drewN q) (fun i _ => n' - (intOf i).toNat)
  case atStart => exact ⟨0, Nat.zero_le _, rfl, fun j hj => absurd hj (by omega), 0, rfl⟩
  case round =>
    obtain ⟨k, hk, rfl, hag, q, rfl⟩ := hrel
    have HG := Lib.hid hag
    clear hag
    by_cases hkn : k < n'
    · obtain ⟨b, off, e, hlt, hc⟩ := HA.out (by omega)
      obtain ⟨b', off', e', hlt', hc'⟩ := HA'.out (by omega)
      subst e
      subst e'
      have hc0 := (hc (k * 2) (by omega)).trans (by rw [(Ent_at _ _).1])
      have hc1 := (hc (k * 2 + 1) (by omega)).trans (by rw [(Ent_at _ _).2])
      rw [← Nat.add_assoc] at hc1
      have hd0 := (hc' (k * 2) (by omega)).trans (by rw [(Ent_at _ _).1])
      have hd1 := (hc' (k * 2 + 1) (by omega)).trans (by rw [(Ent_at _ _).2])
      rw [← Nat.add_assoc] at hd1
      have hkn2 : k < n := by omega
      have hkn3 : k < n' := by omega
      clear hc hc'
      go_wp2
      by_cases hE : (ee l k = ee l' k ∧ tt l k = tt l' k)
      · have q1 : ((ee l k : Int) == (ee l' k : Int)) = true := by simp [hE.1]
        have q2 : ((tt l k).toList == (tt l' k).toList) = true := by simp [hE.2]
        have HN := Lib.hid (HG.out.next hE)
        clear hE
        go_quiet (fail)
        go_wp2
        go_roundw
        case rel => exact ⟨k + 1, by omega, by go_num, HN.out, q + nq, by simp [World.drewN]⟩
        case measure => simp [intOf]; omega
      · have HF := Lib.hid (HS.out k hkn HG.out hE)
        by_cases hE1 : ee l k = ee l' k
        · have q1 : ((ee l k : Int) == (ee l' k : Int)) = true := by simp [hE1]
          have q2 : ((tt l k).toList == (tt l' k).toList) = false := by
            exact beq_eq_false_iff_ne.2 fun e => hE ⟨hE1, toList_inj e⟩
          clear hE hE1
          go_quiet (fail)
          go_wp2
          go_ret
          exact ⟨by rw [HF.out]; rfl, q + nq, by simp [World.drewN, Nat.add_assoc]⟩
        · have q1 : ((ee l k : Int) == (ee l' k : Int)) = false := by simp; omega
          clear hE hE1
          go_quiet (fail)
          go_wp2
          go_ret
          exact ⟨by rw [HF.out]; rfl, q + nq, by simp [World.drewN, Nat.add_assoc]⟩
    · obtain rfl : k = n' := by omega
      have HF := Lib.hid (HE.out HG.out)
      go_wp2
      go_ret
      exact ⟨by rw [HF.out]; rfl, q, rfl⟩
theorem common_any {w : World} {A A' : Option Addr} {n c n' c' : Nat} {l l' : Log} (hA : Cells w A (n * 2) (Ent l)) (hA' : Cells w A' (n' * 2) (Ent l')) (hl : l.length = n) (hl' : l'.length = n') (hn : n ≤ 1024) (hn' : n' ≤ 1024) :
    Calls Try.prog 45 #[.slice A n c, .slice A' n' c'] w fun e w' => e = .returned (.int .i64 (com l l' : Int)) ∧ ∃ k, w' = w.drewN k := by
  rcases Nat.lt_or_ge n' n with h | h
  · exact common_gt hA hA' hl hl' hn hn' h
  · exact common_le hA hA' hl hl' hn hn' h
end Rp
end Go.Proofs.Ytdbpbpnbcjbchaa
