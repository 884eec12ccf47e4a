/- comb.Unrank on small numbers. -/
import Derived.Test.YtdcmpnjhomhhiaaGreatTopMat
set_option linter.unusedVariables false
namespace Go.Proofs.YtdcmpnjhomhhiaaGreat
open Go.RowKit Fr Fa
namespace Tp
/-- One step of Unrank. -/
def us (n k v : Nat) (s : Nat × List Nat) : Nat × List Nat :=
  if s.2.length < k then (if s.1 < cz (n - v) ((k : Int) - 1 - s.2.length) then (s.1, s.2 ++ [v]) else (s.1 - cz (n - v) ((k : Int) - 1 - s.2.length), s.2)) else s
def ur (n k r : Nat) : Nat → Nat × List Nat
  | 0 => (r, [])
  | v + 1 => us n k (v + 1) (ur n k r v)
theorem ur_stay {n k r v : Nat} (h : (ur n k r v).2.length = k) : ∀ j, ur n k r (v + j) = ur n k r v
  | 0 => rfl
  | j + 1 => by
    rw [← Nat.add_assoc, ur, us, ur_stay h j, if_neg (by omega)]
theorem ur_len {n k r : Nat} : ∀ v, (ur n k r v).2.length ≤ k
  | 0 => Nat.zero_le _
  | v + 1 => by
    have ih := ur_len (n := n) (k := k) (r := r) v
    rw [ur, us]
    split
    · split
      · simp; omega
      · exact ih
    · exact ih
theorem ur_fst {n k r : Nat} : ∀ v, (ur n k r v).1 ≤ r
  | 0 => Nat.le_refl _
  | v + 1 => by
    have ih := ur_fst (n := n) (k := k) (r := r) v
    rw [ur, us]
    split
    · split
      · exact ih
      · exact Nat.le_trans (Nat.sub_le _ _) ih
    · exact ih
theorem ur_mem {n k r : Nat} : ∀ v p, p ∈ (ur n k r v).2 → 1 ≤ p ∧ p ≤ v
  | 0, p, h => by simp [ur] at h
  | v + 1, p, h => by
    have ih := ur_mem (n := n) (k := k) (r := r) v p
    rw [ur, us] at h
    split at h
    · split at h
      · rcases List.mem_append.1 h with h | h
        · have := ih h; omega
        · have := List.mem_singleton.1 h; omega
      · have := ih h; omega
    · have := ih h; omega
def Vi (p : Nat) : Value := .int .i64 (p : Int)
theorem map_row (L : List Nat) : L.map Vi = row (L.length * 1) (Dg fun i => L.getD i 0) := by
  rw [Nat.mul_one]
  refine List.ext_getElem (by simp [row]) fun i h1 h2 => ?_
  have h3 : i < L.length := by simpa using h1
  simp [row, Dg, Vi, List.getD_eq_getElem?_getD, List.getElem?_eq_getElem h3]
set_option maxRecDepth 100000 in
theorem ur_full {n k r : Nat} (hn : n ≤ 7) (hk : k ≤ 3) (hkn : k ≤ n) (hr : r < cb n k) : (ur n k r n).2.length = k ∧ cb n k < 100 := by
  have h : ∀ n, n < 8 → ∀ k, k < 4 → k ≤ n → (∀ r, r < cb n k → (ur n k r n).2.length = k) ∧ cb n k < 100 := by decide +kernel
  exact ⟨(h n (by omega) k (by omega) hkn).1 r hr, (h n (by omega) k (by omega) hkn).2⟩
theorem cz_tiny2 {n : Nat} (hn : n ≤ 7) {j : Int} (hj : j ≤ 3) : cz n j < 100 := by
  by_cases h : j < 0
  · unfold cz; rw [if_neg (by omega)]; omega
  · obtain ⟨m, rfl⟩ := Int.eq_ofNat_of_zero_le (show 0 ≤ j by omega)
    exact cz_tiny hn (by omega)
set_option maxHeartbeats 8000000 in
set_option maxRecDepth 100000 in
theorem unrank_tg (w : World) {n k r : Nat} (hn : n ≤ 7) (hk3 : k ≤ 3) (hk : k ≤ n) (hr : r < cb n k) :
    Calls Tryz.prog 20 #[.int .i64 (r : Int), .int .i64 (n : Int), .int .i64 (k : Int)] w fun e w' => (∃ (D : Option Addr) (c : Nat), e = .returned (.tuple #[.slice D k c, .int .i64 0]) ∧ Cells w' D k (Dg fun i => (ur n k r n).2.getD i 0) ∧ Fresh w.heap.size D ∧ k ≤ c) ∧ Below w.heap.size w w' := by
  obtain ⟨i0, hi, hz0, hz1, hz2⟩ := info_parts Tryz.infoI
  have KN := known_any w (n : Int)
  rw [decide_eq_true (show (0 : Int) ≤ (n : Int) ∧ (n : Int) ≤ 80 by omega)] at KN
  have HKN := Lib.hid KN
  obtain ⟨hful, h100⟩ := ur_full hn hk3 hk hr
  obtain ⟨C, hC⟩ : ∃ C, C = cz n (k : Int) := ⟨_, rfl⟩
  have hC2 : C = cb n k := by rw [hC]; unfold cz; rw [if_pos (by omega)]; rfl
  have K1 := count_any w (n := n) (by omega) (k : Int) (by rw [← hC, hC2]; omega)
  rw [← hC] at K1
  have HK1 := Lib.hid K1
  rw [← hC2] at hr h100
  have g0 : ((r : Int) < 0) = False := eq_false (by omega)
  have g1 : ((C : Int) ≤ (r : Int)) = False := eq_false (by omega)
  have g2 : ((k : Int) < 0) = False := eq_false (by omega)
  have g3 : ((n : Int) < (k : Int)) = False := eq_false (by omega)
  have HN := Lib.hid (show n ≤ 7 ∧ k ≤ n ∧ k ≤ 3 ∧ r < 100 from ⟨hn, hk, hk3, by omega⟩)
  obtain ⟨L, hL⟩ : ∃ L, L = (ur n k r n).2 := ⟨_, rfl⟩
  rw [← hL] at hful ⊢
  have HL := Lib.hid hL
  have HF := Lib.hid hful
  clear KN K1 hC hC2 h100 hn hk hk3 hr hL hful
  go_enter Tryz.func20, Tryz.ntmps20
  go_wp2_with fail
  with_reducible refine HKN.out.mono ?_
  rintro e w2 ⟨rfl, rfl⟩
  go_wp2_with fail
  with_reducible refine HK1.out.mono ?_
  rintro e w2 ⟨rfl, hb⟩
  have HB0 := Lib.hid hb
  clear hb
  go_wp2_with (at_make; refine wpList_make_own _ rfl _ _ 37 rfl w2.heap.size 3 i0 (.int .i64 0) 1 Tryz.underlying37 hi hz0 hz1 _ _ _ k rfl rfl rfl ?c1 ?c2 ?c3 ?_)
  case c1 => rw [hz2]; have := HN.out; omega
  case c2 => unfold maxLen; have := HN.out; omega
  case c3 => exact Nat.le_refl _
  intro w3 hown3 hgr3
  have HB3 : Hid (Below w2.heap.size w2 w3) := Lib.hid ⟨hgr3.os, hgr3.tape, hgr3.output, hgr3.size, fun k hk => hgr3.block k (by omega) (by simp)⟩
  have HO3 := Lib.hid hown3
  clear hown3 hgr3
  go_wp2
  go_loopw [11, 10, 0] (fun s11 s10 s0 wr => ∃ v : Nat, v ≤ n ∧ s11 = .int .i64 ((v + 1 : Nat) : Int) ∧ s0 = .int .i64 (((ur n k r v).1 : Nat) : Int) ∧ Hid (wr.ownsRow w2.heap.size 3 1 s10 (ur n k r v).2.length ((ur n k r v).2.map Vi)) ∧ Hid (Below w2.heap.size w2 wr)) (fun i _ _ _ => (n + 1) - (intOf i).toNat)
  case atStart => exact ⟨0, Nat.zero_le _, rfl, rfl, HO3, HB3⟩
  case round =>
    obtain ⟨v, hv, rfl, rfl, HO, HB⟩ := hrel
    obtain ⟨Db, cb', rfl, hcc⟩ := own_slice HO.out
    have HCC0 := Lib.hid hcc
    clear hcc
    have hszr := HB.out.size
    have hlen := ur_len (n := n) (k := k) (r := r) v
    have hfst := ur_fst (n := n) (k := k) (r := r) v
    have hst : ur n k r (v + 1) = us n k (v + 1) (ur n k r v) := rfl
    unfold us at hst
    have hstay := fun h => ur_stay (n := n) (k := k) (r := r) (v := v) h (n - v)
    rw [show v + (n - v) = n by omega] at hstay
    have HEQ : Hid (v = n → L = (ur n k r v).2) := Lib.hid fun h => by rw [HL.out, h]
    have HEK : Hid ((ur n k r v).2.length = k → L = (ur n k r v).2) := Lib.hid fun h => by rw [HL.out, hstay h]
    obtain ⟨v1, hv1⟩ : ∃ x, x = v + 1 := ⟨_, rfl⟩
    obtain ⟨R, hR⟩ : ∃ x, x = (ur n k r v).1 := ⟨_, rfl⟩
    obtain ⟨l, hl⟩ : ∃ x, x = (ur n k r v).2 := ⟨_, rfl⟩
    obtain ⟨m, hm⟩ : ∃ x, x = l.length := ⟨_, rfl⟩
    rw [← hl, ← hm] at HO hlen HEK
    rw [← hl] at HEQ
    rw [← hR] at hfst
    rw [← hR, ← hl, ← hm, ← hv1] at hst
    rw [← hv1, ← hR, ← hl, ← hm]
    clear hstay
    have n10 := HN.out
    by_cases hgo : v < n ∧ m < k
    · have g2 : ((v1 : Int) ≤ (n : Int)) := by omega
      have g3 : ((m : Int) < (k : Int)) := by omega
      obtain ⟨nv, hnv⟩ : ∃ x, x = n - v1 := ⟨_, rfl⟩
      obtain ⟨k1, hk1⟩ : ∃ x, x = (k : Int) - (m : Int) := ⟨_, rfl⟩
      obtain ⟨kk, hkk⟩ : ∃ x, x = k1 - 1 := ⟨_, rfl⟩
      have vw1 : IntKind.i64.wrap ((n : Int) - (v1 : Int)) = (nv : Int) := by rw [IntWalk.i64_in _ (by omega)]; omega
      have vw2 : IntKind.i64.wrap ((k : Int) - (m : Int)) = k1 := by rw [IntWalk.i64_in _ (by omega)]; omega
      have vw3 : IntKind.i64.wrap (k1 - 1) = kk := by rw [IntWalk.i64_in _ (by omega)]; omega
      have vw4 : IntKind.i64.wrap ((v1 : Int) + 1) = (v1 : Int) + 1 := IntWalk.i64_in _ (by omega)
      have KC := count_any wr (n := nv) (by omega) kk (Nat.lt_trans (cz_tiny2 (by omega) (by omega)) (by omega))
      rw [if_pos hgo.2] at hst
      rw [← hnv, show (k : Int) - 1 - (m : Int) = kk by omega] at hst
      obtain ⟨d, hd⟩ : ∃ x, x = cz nv kk := ⟨_, rfl⟩
      rw [← hd] at KC hst
      have HKC := Lib.hid KC
      have HV := Lib.hid (show v1 = v + 1 ∧ v < n ∧ m < k ∧ m = l.length from ⟨hv1, hgo.1, hgo.2, hm⟩)
      by_cases hRd : R < d
      · rw [if_pos hRd] at hst
        have g4 : ((R : Int) < (d : Int)) := by omega
        have HST : Hid (ur n k r (v + 1) = (R, l ++ [v1])) := Lib.hid (by rw [← hv1]; exact hst)
        have HMM : Hid ((l ++ [v1]).map Vi = l.map Vi ++ [.int .i64 (v1 : Int)]) := Lib.hid (by rw [List.map_append]; rfl)
        have m10 : m ≤ 10 := by omega
        clear KC hst hRd hnv hk1 hkk hd hgo hv1 hR hl hm hlen hfst hv n10
        go_wp2_with fail
        refine HKC.out.mono ?_
        rintro e w7 ⟨rfl, hb7⟩
        replace HO := Lib.hid (own_keep HO.out hb7)
        replace HB := Lib.hid (Below.on HB.out hb7)
        have hszr := HB.out.size
        clear hb7
        go_wp2_with (at_builtin; refine wpList_append_own _ rfl _ _ 37 rfl w2.heap.size 3 i0 (.int .i64 0) 1 8 Tryz.underlying37 hi hz0 hz1 hz2 rfl (by decide) _ _ _ rfl (HO.out.alloc _) ⟨w7.heap.size, 0, none⟩ 1 1 [.int .i64 (v1 : Int)] rfl rfl ?c1 ?c2 ?c3 ?c4 ?c5 ?_)
        case c1 => exact fun j u hu => new_cell rfl (by simpa using hu)
        case c2 => intro u hu; simp at hu; subst hu; rfl
        case c3 => unfold maxLen; omega
        case c4 => omega
        case c5 => first | omega | (simp; omega)
        intro v' w3 hown' hgrow _
        have HB3 := Lib.hid (own_below (HB.out.alloc hszr _) (HO.out.alloc _) (by simp; omega) hgrow)
        have HO3 := Lib.hid hown'
        rw [← HMM.out] at HO3
        clear hown' hgrow HO HB
        go_wp2
        go_roundw
        case rel =>
          refine ⟨v + 1, by have := HV.out.2.1; omega, by rw [← HV.out.1]; rfl, by rw [HST.out], ?_, HB3⟩
          rw [HST.out]
          have e : (l ++ [v1]).length = m + 1 := by rw [List.length_append, ← HV.out.2.2.2]; rfl
          show Hid (w3.ownsRow w2.heap.size 3 1 v' (l ++ [v1]).length ((l ++ [v1]).map Vi))
          rw [e]
          exact HO3
        case measure => have := HV.out; simp [intOf] <;> omega
      · rw [if_neg hRd] at hst
        have g4 : ((R : Int) < (d : Int)) = False := eq_false (by omega)
        obtain ⟨R2, hR2⟩ : ∃ x, x = R - d := ⟨_, rfl⟩
        rw [← hR2] at hst
        have vw5 : IntKind.i64.wrap ((R : Int) - (d : Int)) = (R2 : Int) := by rw [IntWalk.i64_in _ (by omega)]; omega
        have HST : Hid (ur n k r (v + 1) = (R2, l)) := Lib.hid (by rw [← hv1]; exact hst)
        clear KC hst hRd hnv hk1 hkk hd hgo hv1 hR hl hm hlen hfst hv n10 hR2
        go_wp2_with fail
        refine HKC.out.mono ?_
        rintro e w7 ⟨rfl, hb7⟩
        replace HO := Lib.hid (own_keep HO.out hb7)
        replace HB := Lib.hid (Below.on HB.out hb7)
        have hszr := HB.out.size
        clear hb7
        go_wp2
        go_roundw
        case rel =>
          refine ⟨v + 1, by have := HV.out.2.1; omega, by rw [← HV.out.1]; rfl, by rw [HST.out], ?_, HB⟩
          rw [HST.out]
          show Hid (w7.ownsRow w2.heap.size 3 1 (.slice Db m cb') l.length (l.map Vi))
          rw [← HV.out.2.2.2]
          exact HO
        case measure => have := HV.out; simp [intOf] <;> omega
    · have hLl : L = l := by
        rcases Nat.lt_or_ge v n with h | h
        · exact HEK.out (by omega)
        · exact HEQ.out (by omega)
      have hC := Cells.of_own (show wr.ownsRow w2.heap.size 3 1 (.slice Db m cb') m (row (m * 1) (Dg fun i => l.getD i 0)) by
        have := HO.out
        rw [map_row, ← hm] at this
        exact this)
      rw [Nat.mul_one] at hC
      have HC := Lib.hid hC
      have HLL := Lib.hid (show L = l ∧ m = l.length from ⟨hLl, hm⟩)
      have HFR := Lib.hid ((Fresh.of_own HO.out).mono HB0.out.size)
      have hmk : k ≤ m := by
        rcases Nat.lt_or_ge v n with h | h
        · omega
        · have h1 := HF.out
          rw [hLl, ← hm] at h1
          omega
      have hmk2 : m = k := by omega
      have HCC : Hid (k ≤ cb') := Lib.hid (by have h := HCC0.out; rw [← hmk2, hm, hl]; exact h)
      have g3 : ((m : Int) < (k : Int)) = False := eq_false (by omega)
      clear hC hLl hgo hst hv1 hR hl hm hlen hfst hv n10 HO hmk
      subst hmk2
      go_wp2
      go_ret2
      refine ⟨⟨Db, cb', rfl, ?_, HFR.out, HCC.out⟩, Below.on HB0.out HB.out⟩
      rw [HLL.out.1]
      exact HC.out
end Tp
end Go.Proofs.YtdcmpnjhomhhiaaGreat
