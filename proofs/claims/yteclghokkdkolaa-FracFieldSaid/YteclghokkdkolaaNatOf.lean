/- The walks of nat.Of, nat.Uint and of their references. -/
import Derived.Test.YteclghokkdkolaaNatWords
import Derived.Test.YteclghokkdkolaaNatRAdd
import Derived.Laws.Bits64b
set_option linter.unusedVariables false
namespace Go.Proofs.Yteclghokkdkolaa
open Go.RowKit

def q32 (N k : Nat) : Nat := N / 4294967296 ^ k
theorem q32_zero (N : Nat) : q32 N 0 = N := by simp [q32]
theorem q32_next (N k : Nat) : q32 N k = q32 N (k + 1) * 4294967296 + d32 N k := Nt.div_next 4294967296 N k
theorem q32_le (N k : Nat) : q32 N k ≤ N := Nat.div_le_self _ _
theorem q32_end {N k : Nat} (h : L32 N ≤ k) : q32 N k = 0 := Nat.div_eq_of_lt (fit32_of h)
theorem q32_pos {N k : Nat} (h : k < L32 N) : 0 < q32 N k := by
  rcases Nat.eq_zero_or_pos (q32 N k) with h0 | h0
  · have : N < 4294967296 ^ k := by
      unfold q32 at h0
      rcases Nat.div_eq_zero_iff.1 h0 with h1 | h1
      · have := Nat.pow_pos (n := k) (show 0 < 4294967296 by omega); omega
      · exact h1
    have := fit32_le this
    omega
  · exact h0
theorem fit_two {N : Nat} (h : N < 18446744073709551616) : Fit32 N 2 := by
  show N < 4294967296 ^ 2
  rw [show (4294967296 : Nat) ^ 2 = 18446744073709551616 by rfl]; exact h
theorem two_digits {N : Nat} (h : N < 18446744073709551616) : d32 N 0 = N % 4294967296 ∧ d32 N 1 = N / 4294967296 := by
  unfold d32 Nt.dig
  rw [Nat.pow_zero, Nat.pow_one, Nat.div_one]
  exact ⟨rfl, Nat.mod_eq_of_lt (by omega)⟩

set_option maxHeartbeats 400000 in
theorem of_any (N : Nat) (hN : N < 18446744073709551616) (w : World) :
    Calls Try.prog 42 #[.int .u64 (N : Int)] w fun e w' => ∃ D c, e = .returned (.agg #[.slice D (L32 N) c]) ∧ L32 N ≤ c ∧ Cells w' D (L32 N) (Lm (d32 N)) ∧ Below w.heap.size w w' := by
  have hf := Lib.hid (fit_two hN)
  obtain ⟨e0, e1⟩ := two_digits hN
  have E0 := Lib.hid e0
  have E1 := Lib.hid e1
  clear e0 e1
  go_enter Try.func42, Try.ntmps42
  have hb0 := (Below.refl w.heap.size w).alloc (Nat.le_refl _) (.cells #[.slice none 0 0] 24)
  have hk0 := Blk.new w 24 #[.slice none 0 0]
  have HB0 := Lib.hid (hb0.alloc hb0.size (.cells #[.int .u32 ((N : Int) % 4294967296), .int .u32 ((N : Int) / 4294967296)] 43))
  have HK0 := Lib.hid (hk0.alloc (.cells #[.int .u32 ((N : Int) % 4294967296), .int .u32 ((N : Int) / 4294967296)] 43))
  have HC0 := Lib.hid (Cells.lit (w := w.alloc (.cells #[.slice none 0 0] 24)) (cs := #[.int .u32 ((N : Int) % 4294967296), .int .u32 ((N : Int) / 4294967296)]) (t := 43) (g := w.heap.size + 1) (m := 2) (G := Lm (d32 N)) (by simp) fun j hj => by
    match j, hj with
    | 0, _ => unfold Lm; rw [E0.out, Int.natCast_emod]; rfl
    | 1, _ => unfold Lm; rw [E1.out, Int.natCast_ediv]; rfl)
  clear hb0 hk0
  go_wp2_with fail
  refine (trimmed_any (by omega) (by omega) hf.out HC0.out).mono ?_
  rintro e w1 ⟨D, c, rfl, hlc, hc, hb1, hD⟩
  have HB1 := Lib.hid (HB0.out.trans (hb1.mono HB0.out.size))
  have HK1 := Lib.hid (HK0.out.keep hb1)
  have q0 := HK1.out.cell 0
  have f0 := HK1.out.frozen 0
  have hlt := HK1.out.lt
  have q0 : w1.cell? ⟨w.heap.size, 0, none⟩ = some (.slice none 0 0) := q0
  have HC := Lib.hid hc
  have HD : Hid (Fresh (w.heap.size + 1) D) := Fresh.same (D := some ⟨w.heap.size + 1, 0, none⟩) (fun a ha => by injection ha with ha; subst ha; exact Nat.le_refl _) hD
  unfold natv
  obtain ⟨l, hl⟩ : ∃ l, l = L32 N := ⟨_, rfl⟩
  rw [← hl] at hlc HC ⊢
  have HL := Lib.hid hl
  clear hb1 hc HB0 HK0 HC0 hl hD
  go_wp2
  refine bodyPost_ret (v := .agg #[.slice D l c]) (by simp [results, Try.results42, go_sem, q0]) rfl ?_
  rw [← HL.out]
  exact ⟨D, c, rfl, hlc, HC.out.set_ HD.out (Nat.lt_succ_self _) _ _, HB1.out.setCell (p := ⟨w.heap.size, 0, none⟩) (Nat.le_refl _) _⟩

set_option maxHeartbeats 1000000 in
set_option maxRecDepth 100000 in
theorem refOf_any (N : Nat) (hN : N < 18446744073709551616) (w : World) :
    Calls Try.prog 43 #[.int .u64 (N : Int)] w fun e w' => ∃ D c, e = .returned (.agg #[.slice D (L32 N) c]) ∧ L32 N ≤ c ∧ Cells w' D (L32 N) (Lm (d32 N)) ∧ Below w.heap.size w w' := by
  obtain ⟨i0, hi, hz0, hz1, hz2⟩ := info_parts Try.infoU
  have hl2 := fit32_le (fit_two hN)
  have HB0 := Lib.hid ((Below.refl w.heap.size w).alloc (Nat.le_refl _) (.cells #[.slice none 0 0] 24))
  have HK0 := Lib.hid (Blk.new w 24 #[.slice none 0 0])
  have HB1 := Lib.hid (HB0.out.alloc HB0.out.size (.cells #[.slice none 0 0] 24))
  have HK1 := Lib.hid (HK0.out.alloc (.cells #[.slice none 0 0] 24))
  have HA1 : Hid (Blk ((w.alloc (.cells #[.slice none 0 0] 24)).alloc (.cells #[.slice none 0 0] 24)) (w.heap.size + 1) 24 #[.slice none 0 0]) := by
    have := Blk.new (w.alloc (.cells #[.slice none 0 0] 24)) 24 #[.slice none 0 0]
    rwa [World.size_alloc] at this
  go_enter Try.func43, Try.ntmps43
  go_wp2
  go_loopw [0] (fun i wr => ∃ (k : Nat) (v : Value), k ≤ L32 N ∧ i = .int .u64 (q32 N k : Int) ∧ Hid (wr.ownsRow (w.heap.size + 1 + 1) 43 1 v k (row (k * 1) (Lm (d32 N)))) ∧ Hid (Below w.heap.size w wr) ∧ Hid (Blk wr w.heap.size 24 #[.slice none 0 0]) ∧ Hid (Blk wr (w.heap.size + 1) 24 #[v])) (fun i _ => (intOf i).toNat)
  case atStart => exact ⟨0, _, Nat.zero_le _, by rw [q32_zero], World.ownsRow_nil _ _ _ _, HB1, HK1, HA1⟩
  case round =>
    obtain ⟨k, v, hk, rfl, HO, HB, HK, HA⟩ := hrel
    have hsz := HB.out.size
    have hlt := HA.out.lt
    have q1 : wr.cell? ⟨w.heap.size + 1, 0, none⟩ = some v := HA.out.cell 0
    have f1 : wr.frozen? ⟨w.heap.size + 1, 0, none⟩ = false := HA.out.frozen 0
    have hq := q32_next N k
    have hql := q32_le N k
    have hd := d32_lt N k
    have HQ := Lib.hid hq
    clear hq
    by_cases hkl : k < L32 N
    · have hp := q32_pos hkl
      have e1 := Lib.hid (show (q32 N k : Int) % 4294967296 = (d32 N k : Int) by have := HQ.out; omega)
      have e2 := Lib.hid (show (q32 N k : Int) / 4294967296 = (q32 N (k + 1) : Int) by have := HQ.out; omega)
      go_wp2_with (at_builtin; refine wpList_append_own _ rfl _ _ 22 rfl (w.heap.size + 1 + 1) 43 i0 (.int .u32 0) 1 4 Try.underlying22 hi hz0 hz1 hz2 rfl (by decide) _ _ _ rfl (HO.out.alloc _) ⟨wr.heap.size, 0, none⟩ 1 1 [.int .u32 ((q32 N k : Int) % 4294967296)] rfl rfl ?c1 ?c2 ?c3 ?c4 ?c5 ?_)
      try case c1 => exact fun j u hu => new_cell rfl (by simpa using hu)
      try case c2 => first | rfl | (intro u hu; simp at hu; subst hu; rfl)
      case c3 => unfold maxLen; omega
      case c4 => omega
      try case c5 => first | omega | (simp; omega)
      intro v' w3 hown' hgrow _
      have hlo : ∀ j, v.ownBlock = some j → w.heap.size + 1 + 1 ≤ j := fun j hj => (HO.out.lt j hj).1
      have HB3 := Lib.hid ((HB.out.alloc hsz (.cells #[.int .u32 ((q32 N k : Int) % 4294967296)] 43)).grown hgrow (by simp; omega) fun j hj => by have := hlo j hj; omega)
      have HK3 := Lib.hid ((HK.out.alloc (.cells #[.int .u32 ((q32 N k : Int) % 4294967296)] 43)).grown hgrow (by intro e; have := hlo _ e.symm; omega))
      have HA3 := Lib.hid ((HA.out.alloc (.cells #[.int .u32 ((q32 N k : Int) % 4294967296)] 43)).grown hgrow (by intro e; have := hlo _ e.symm; omega))
      have HO3 : Hid (w3.ownsRow (w.heap.size + 1 + 1) 43 1 v' (k + 1) (row ((k + 1) * 1) (Lm (d32 N)))) := by
        rw [e1.out] at hown'
        rw [Nat.mul_one, row_one, Lm_at]
        first | exact hown' | (rw [Nat.mul_one] at hown'; exact hown')
      clear hown' hgrow HO HB HK HA hlo q1 f1
      obtain ⟨Dv, cv, rfl, _⟩ := own_slice HO3.out
      have f1 : w3.frozen? ⟨w.heap.size + 1, 0, none⟩ = false := HA3.out.frozen 0
      have q1 : w3.cell? ⟨w.heap.size + 1, 0, none⟩ = some v := HA3.out.cell 0
      go_wp2
      go_roundw
      case rel => exact ⟨k + 1, _, by omega, by rw [e2.out], own_only HO3.out (only_set (only_refl _ _) 0 _) (by omega), HB3.out.setCell (by simp) _, HK3.out.grown (only_set (only_refl _ _) 0 _) (by intro e; injection e; omega), HA3.out.set_ 0 _⟩
      case measure => have := e2.out; simp [intOf]; omega
    · obtain rfl : k = L32 N := by omega
      have hz : q32 N (L32 N) ≤ 0 := by rw [q32_end (Nat.le_refl _)]; exact Nat.le_refl _
      obtain ⟨l, hl⟩ : ∃ l, l = L32 N := ⟨_, rfl⟩
      rw [← hl] at HO hz ⊢
      have HL := Lib.hid hl
      obtain ⟨D', c2, rfl, hcc⟩ := own_slice HO.out
      have HC := Lib.hid (Cells.of_own HO.out)
      have HF := Lib.hid (Fresh.of_own HO.out)
      have f0 : wr.frozen? ⟨w.heap.size, 0, none⟩ = false := HK.out.frozen 0
      have q0 : wr.cell? ⟨w.heap.size, 0, none⟩ = some (.slice none 0 0) := HK.out.cell 0
      clear hl
      go_wp2
      refine bodyPost_ret (v := .agg #[.slice D' l c2]) (by simp [results, Try.results43, go_sem, q0]) rfl ?_
      rw [← HL.out]
      have hcs := HC.out
      rw [Nat.mul_one] at hcs
      exact ⟨D', c2, rfl, hcc, hcs.set_ HF.out (by omega) _ _, HB.out.setCell (p := ⟨w.heap.size, 0, none⟩) (Nat.le_refl _) _⟩
end Go.Proofs.Yteclghokkdkolaa
