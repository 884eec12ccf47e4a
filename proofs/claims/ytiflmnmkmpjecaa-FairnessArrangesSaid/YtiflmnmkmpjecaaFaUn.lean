/- The walk of the reference's Unrank (05), of small numbers, and the count of arrangements one by one. -/
import Derived.Test.YtiflmnmkmpjecaaFaK
import Derived.Test.YtiflmnmkmpjecaaFaScQ
set_option linter.unusedVariables false
namespace Go.Proofs.Ytiflmnmkmpjecaa
open Go.RowKit
namespace Fa
open Fr
/-- One step of Unrank. -/
def us (n k v : Nat) (s : Nat × List Nat) : Nat × List Nat :=
  if s.2.length < k then (if s.1 < cz (n - v) ((k : Int) - 1 - s.2.length) then (s.1, s.2 ++ [v]) else (s.1 - cz (n - v) ((k : Int) - 1 - s.2.length), s.2)) else s
def ur (n k r : Nat) : Nat → Nat × List Nat
  | 0 => (r, [])
  | v + 1 => us n k (v + 1) (ur n k r v)
def pl (l : List Nat) (j : Nat) : Bool := l.contains (j + 1)
/-- How many of the first arrangements have r runs. -/
def cnt (x y r : Nat) : Nat → Nat
  | 0 => 0
  | i + 1 => cnt x y r i + if rn (pl (ur (x + y) x i (x + y)).2) (x + y) = r then 1 else 0
set_option maxRecDepth 100000 in
theorem cnt_all : ∀ x, x < 11 → ∀ y, y < 11 - x → ∀ r, r < 12 → cnt x y r (cb (x + y) x) = rc x y r := by decide +kernel
set_option maxRecDepth 100000 in
theorem cb_252 : ∀ n, n < 11 → ∀ k, k < n + 1 → cb n k ≤ 252 := by decide +kernel
theorem ur_stay {n k r v : Nat} (h : (ur n k r v).2.length = k) : ∀ j, ur n k r (v + j) = ur n k r v
  | 0 => rfl
  | j + 1 => by
    rw [← Nat.add_assoc, ur, us, ur_stay h j, if_neg (by omega)]
theorem ur_len {n k r : Nat} : ∀ v, (ur n k r v).2.length ≤ k
  | 0 => Nat.zero_le _
  | v + 1 => by
    have ih := ur_len (n := n) (k := k) (r := r) v
    rw [ur, us]
    split
    · split
      · simp; omega
      · exact ih
    · exact ih
theorem ur_fst {n k r : Nat} : ∀ v, (ur n k r v).1 ≤ r
  | 0 => Nat.le_refl _
  | v + 1 => by
    have ih := ur_fst (n := n) (k := k) (r := r) v
    rw [ur, us]
    split
    · split
      · exact ih
      · exact Nat.le_trans (Nat.sub_le _ _) ih
    · exact ih
theorem ur_mem {n k r : Nat} : ∀ v p, p ∈ (ur n k r v).2 → 1 ≤ p ∧ p ≤ v
  | 0, p, h => by simp [ur] at h
  | v + 1, p, h => by
    have ih := ur_mem (n := n) (k := k) (r := r) v p
    rw [ur, us] at h
    split at h
    · split at h
      · rcases List.mem_append.1 h with h | h
        · have := ih h; omega
        · have := List.mem_singleton.1 h; omega
      · have := ih h; omega
    · have := ih h; omega
def Vi (p : Nat) : Value := .int .i64 (p : Int)
theorem map_row (L : List Nat) : L.map Vi = row (L.length * 1) (Dg fun i => L.getD i 0) := by
  rw [Nat.mul_one]
  refine List.ext_getElem (by simp [row]) fun i h1 h2 => ?_
  have h3 : i < L.length := by simpa using h1
  simp [row, Dg, Vi, List.getD_eq_getElem?_getD, List.getElem?_eq_getElem h3]
set_option maxHeartbeats 8000000 in
set_option maxRecDepth 100000 in
theorem unrank_sm (w : World) {n k r : Nat} (hn : n ≤ 10) (hk : k ≤ n) (hr : r < cb n k) :
    Calls Try.prog 30 #[.int .i64 (r : Int), .int .i64 (n : Int), .int .i64 (k : Int)] w fun e w' => (∃ (D : Option Addr) (c : Nat), e = .returned (.tuple #[.slice D (ur n k r n).2.length c, .int .i64 0]) ∧ Cells w' D (ur n k r n).2.length (Dg fun i => (ur n k r n).2.getD i 0)) ∧ Below w.heap.size w w' := by
  obtain ⟨i0, hi, hz0, hz1, hz2⟩ := info_parts Try.infoI
  have I1 := in_any w (n : Int) 80
  rw [show decide (0 ≤ (n : Int) ∧ (n : Int) ≤ 80) = true from decide_eq_true (by omega)] at I1
  have HI1 := Lib.hid I1
  have I2 := in_any w (k : Int) (n : Int)
  rw [show decide (0 ≤ (k : Int) ∧ (k : Int) ≤ (n : Int)) = true from decide_eq_true (by omega)] at I2
  have HI2 := Lib.hid I2
  have K1 := rcount_sm w hn (k : Int)
  obtain ⟨C, hC⟩ : ∃ C, C = cz n (k : Int) := ⟨_, rfl⟩
  have hC2 : C = cb n k := by rw [hC]; unfold cz; rw [if_pos (by omega)]; rfl
  rw [← hC] at K1
  have HK1 := Lib.hid K1
  have hC3 := cb_252 n (by omega) k (by omega)
  rw [← hC2] at hr hC3
  have g0 : ((r : Int) < 0) = False := eq_false (by omega)
  have g1 : ((C : Int) ≤ (r : Int)) = False := eq_false (by omega)
  have HN := Lib.hid (show n ≤ 10 ∧ k ≤ n ∧ r ≤ 252 from ⟨hn, hk, by omega⟩)
  obtain ⟨L, hL⟩ : ∃ L, L = (ur n k r n).2 := ⟨_, rfl⟩
  rw [← hL]
  have HL := Lib.hid hL
  clear I1 I2 K1 hC hC2 hC3 hn hk hr hL
  go_enter Try.func30, Try.ntmps30
  go_wp2_with fail
  refine HI1.out.mono ?_
  rintro e w2 ⟨rfl, hw2⟩
  obtain rfl := hw2
  go_wp2_with fail
  refine HI2.out.mono ?_
  rintro e w2 ⟨rfl, hw2⟩
  obtain rfl := hw2
  go_wp2_with fail
  refine HK1.out.mono ?_
  rintro e w2 ⟨rfl, hw2⟩
  obtain rfl := hw2
  go_wp2
  go_loopw [11, 10, 0] (fun s11 s10 s0 wr => ∃ v : Nat, v ≤ n ∧ s11 = .int .i64 ((v + 1 : Nat) : Int) ∧ s0 = .int .i64 (((ur n k r v).1 : Nat) : Int) ∧ Hid (wr.ownsRow w.heap.size 3 1 s10 (ur n k r v).2.length ((ur n k r v).2.map Vi)) ∧ Hid (Below w.heap.size w wr)) (fun i _ _ _ => (n + 1) - (intOf i).toNat)
  case atStart => exact ⟨0, Nat.zero_le _, rfl, rfl, Lib.hid (World.ownsRow_nil _ _ _ _), Below.refl _ _⟩
  case round =>
    obtain ⟨v, hv, rfl, rfl, HO, HB⟩ := hrel
    obtain ⟨Db, cb', rfl, _⟩ := own_slice HO.out
    have hszr := HB.out.size
    have hlen := ur_len (n := n) (k := k) (r := r) v
    have hfst := ur_fst (n := n) (k := k) (r := r) v
    have hst : ur n k r (v + 1) = us n k (v + 1) (ur n k r v) := rfl
    unfold us at hst
    have hstay := fun h => ur_stay (n := n) (k := k) (r := r) (v := v) h (n - v)
    rw [show v + (n - v) = n by omega] at hstay
    have HEQ : Hid (v = n → L = (ur n k r v).2) := Lib.hid fun h => by rw [HL.out, h]
    have HEK : Hid ((ur n k r v).2.length = k → L = (ur n k r v).2) := Lib.hid fun h => by rw [HL.out, hstay h]
    obtain ⟨v1, hv1⟩ : ∃ x, x = v + 1 := ⟨_, rfl⟩
    obtain ⟨R, hR⟩ : ∃ x, x = (ur n k r v).1 := ⟨_, rfl⟩
    obtain ⟨l, hl⟩ : ∃ x, x = (ur n k r v).2 := ⟨_, rfl⟩
    obtain ⟨m, hm⟩ : ∃ x, x = l.length := ⟨_, rfl⟩
    rw [← hl, ← hm] at HO hlen HEK
    rw [← hl] at HEQ
    rw [← hR] at hfst
    rw [← hR, ← hl, ← hm, ← hv1] at hst
    rw [← hv1, ← hR, ← hl, ← hm]
    clear hstay
    have n10 := HN.out
    by_cases hgo : v < n ∧ m < k
    · have g2 : ((v1 : Int) ≤ (n : Int)) := by omega
      have g3 : ((m : Int) < (k : Int)) := by omega
      obtain ⟨nv, hnv⟩ : ∃ x, x = n - v1 := ⟨_, rfl⟩
      obtain ⟨k1, hk1⟩ : ∃ x, x = (k : Int) - 1 := ⟨_, rfl⟩
      obtain ⟨kk, hkk⟩ : ∃ x, x = k1 - (m : Int) := ⟨_, rfl⟩
      have w1 : IntKind.i64.wrap ((n : Int) - (v1 : Int)) = (nv : Int) := by rw [IntWalk.i64_in _ (by omega)]; omega
      have w2 : IntKind.i64.wrap ((k : Int) - 1) = k1 := by rw [IntWalk.i64_in _ (by omega)]; omega
      have w3 : IntKind.i64.wrap (k1 - (m : Int)) = kk := by rw [IntWalk.i64_in _ (by omega)]; omega
      have w4 : IntKind.i64.wrap ((v1 : Int) + 1) = (v1 : Int) + 1 := IntWalk.i64_in _ (by omega)
      have KC := rcount_sm wr (n := nv) (by omega) kk
      rw [if_pos hgo.2] at hst
      rw [← hnv, show (k : Int) - 1 - (m : Int) = kk by omega] at hst
      obtain ⟨d, hd⟩ : ∃ x, x = cz nv kk := ⟨_, rfl⟩
      rw [← hd] at KC hst
      have HKC := Lib.hid KC
      have HV := Lib.hid (show v1 = v + 1 ∧ v < n ∧ m < k ∧ m = l.length from ⟨hv1, hgo.1, hgo.2, hm⟩)
      by_cases hRd : R < d
      · rw [if_pos hRd] at hst
        have g4 : ((R : Int) < (d : Int)) := by omega
        have HST : Hid (ur n k r (v + 1) = (R, l ++ [v1])) := Lib.hid (by rw [← hv1]; exact hst)
        have HMM : Hid ((l ++ [v1]).map Vi = l.map Vi ++ [.int .i64 (v1 : Int)]) := Lib.hid (by rw [List.map_append]; rfl)
        have m10 : m ≤ 10 := by omega
        clear KC hst hRd hnv hk1 hkk hd hgo hv1 hR hl hm hlen hfst hv n10
        go_wp2_with fail
        refine HKC.out.mono ?_
        rintro e w7 ⟨rfl, hw7⟩
        obtain rfl := hw7
        go_wp2_with (at_builtin; refine wpList_append_own _ rfl _ _ 24 rfl w.heap.size 3 i0 (.int .i64 0) 1 8 Try.underlying24 hi hz0 hz1 hz2 rfl (by decide) _ _ _ rfl (HO.out.alloc _) ⟨wr.heap.size, 0, none⟩ 1 1 [.int .i64 (v1 : Int)] rfl rfl ?c1 ?c2 ?c3 ?c4 ?c5 ?_)
        case c1 => exact fun j u hu => new_cell rfl (by simpa using hu)
        case c2 => intro u hu; simp at hu; subst hu; rfl
        case c3 => unfold maxLen; omega
        case c4 => omega
        case c5 => first | omega | (simp; omega)
        intro v' w3 hown' hgrow _
        have HB3 := Lib.hid (own_below (HB.out.alloc hszr _) (HO.out.alloc _) (by simp; omega) hgrow)
        have HO3 := Lib.hid hown'
        rw [← HMM.out] at HO3
        clear hown' hgrow HO HB
        go_wp2
        go_roundw
        case rel =>
          refine ⟨v + 1, by have := HV.out.2.1; omega, by rw [← HV.out.1]; rfl, by rw [HST.out], ?_, HB3⟩
          rw [HST.out]
          have e : (l ++ [v1]).length = m + 1 := by rw [List.length_append, ← HV.out.2.2.2]; rfl
          show Hid (w3.ownsRow w.heap.size 3 1 v' (l ++ [v1]).length ((l ++ [v1]).map Vi))
          rw [e]
          exact HO3
        case measure => have := HV.out; simp [intOf] <;> omega
      · rw [if_neg hRd] at hst
        have g4 : ((R : Int) < (d : Int)) = False := eq_false (by omega)
        obtain ⟨R2, hR2⟩ : ∃ x, x = R - d := ⟨_, rfl⟩
        rw [← hR2] at hst
        have w5 : IntKind.i64.wrap ((R : Int) - (d : Int)) = (R2 : Int) := by rw [IntWalk.i64_in _ (by omega)]; omega
        have HST : Hid (ur n k r (v + 1) = (R2, l)) := Lib.hid (by rw [← hv1]; exact hst)
        clear KC hst hRd hnv hk1 hkk hd hgo hv1 hR hl hm hlen hfst hv n10 hR2
        go_wp2_with fail
        refine HKC.out.mono ?_
        rintro e w7 ⟨rfl, hw7⟩
        obtain rfl := hw7
        go_wp2
        go_roundw
        case rel =>
          refine ⟨v + 1, by have := HV.out.2.1; omega, by rw [← HV.out.1]; rfl, by rw [HST.out], ?_, HB⟩
          rw [HST.out]
          show Hid (wr.ownsRow w.heap.size 3 1 (.slice Db m cb') l.length (l.map Vi))
          rw [← HV.out.2.2.2]
          exact HO
        case measure => have := HV.out; simp [intOf] <;> omega
    · have hLl : L = l := by
        rcases Nat.lt_or_ge v n with h | h
        · exact HEK.out (by omega)
        · exact HEQ.out (by omega)
      have hC := Cells.of_own (show wr.ownsRow w.heap.size 3 1 (.slice Db m cb') m (row (m * 1) (Dg fun i => l.getD i 0)) by
        have := HO.out
        rw [map_row, ← hm] at this
        exact this)
      rw [Nat.mul_one] at hC
      have HC := Lib.hid hC
      have HLL := Lib.hid (show L = l ∧ m = l.length from ⟨hLl, hm⟩)
      have hg : ((v1 : Int) ≤ (n : Int)) = False ∨ ((v1 : Int) ≤ (n : Int)) ∧ ((m : Int) < (k : Int)) = False := by
        by_cases h : v < n
        · exact .inr ⟨by omega, eq_false (by omega)⟩
        · exact .inl (eq_false (by omega))
      clear hC hLl hgo hst hv1 hR hl hm hlen hfst hv n10 HO
      rcases hg with g2 | ⟨g2, g3⟩
      all_goals
        go_wp2
        refine bodyPost_ret (v := .tuple #[.slice Db m cb', .int .i64 0]) (by simp [results, Try.results30, go_sem]) rfl ?_
        refine ⟨⟨Db, cb', by rw [HLL.out.1, HLL.out.2], ?_⟩, HB.out⟩
        rw [HLL.out.1, ← HLL.out.2]
        exact HC.out
end Fa
end Go.Proofs.Ytiflmnmkmpjecaa
